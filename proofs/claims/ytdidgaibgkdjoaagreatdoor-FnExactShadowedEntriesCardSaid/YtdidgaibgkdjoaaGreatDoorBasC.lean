/-
  CONTRACTS: the notation of an atom, and an atom read, of the program and of the reference.
  CONTRACTS: ParseAtom of the reference and of the program.
  CONTRACTS: impl.ParseAtom.
  CONTRACTS: a text cut at a byte; a translation read, of the program and of the reference.
  CONTRACTS: isTranslation; l5List and l5Parse of the reference.
  CONTRACTS: entries and dictionaries looked at, of the program and of the reference.
  CONTRACTS: an outline looked for in a dictionary, of the program and of the reference.
  CONTRACTS: a text with the suffix of a fold, of the program and of the reference.
-/
import Derived.Test.YtdidgaibgkdjoaaGreatDoorBasS
import Derived.Test.YtdidgaibgkdjoaaGreatDoorBasA
import Derived.Shelf.Strings.SlTrimAscii
import Derived.Test.YtdidgaibgkdjoaaGreatDoorBasB
import Derived.Laws.AppendOwn
import Derived.OwnWalk
import Derived.Lib.SmallJoins
import Derived.Deep.RegionWith
import Derived.Deep.DeepCutAuto
namespace Go.Proofs.YtdidgaibgkdjoaaGreatDoor
open Go.RowKit

theorem keepcT {w w' : World} (hb : Below w.heap.size w w') {b o : Nat} {u : Value} (h : w.cell? ⟨b, o, none⟩ = some u) : w'.cell? ⟨b, o, none⟩ = some u := by
  rw [hb.cell (World.block_lt_of_cell? _ _ h)]; exact h
theorem Pl.fmtE {a : Int} {x : ByteArray} (n1 : ¬ a = 1) (n2 : ¬ a = 2) (n3 : ¬ a = 3) (n4 : ¬ a = 4) (n5 : ¬ a = 5) (n8 : ¬ a = 8) (n9 : ¬ a = 9) (n10 : ¬ a = 10) : Pl.fmtA a x = ⟨#[123]⟩ ++ x ++ ⟨#[125]⟩ := by
  unfold Pl.fmtA; rw [if_neg n1, if_neg n2, if_neg n3, if_neg n4, if_neg n5, if_neg n8, if_neg n9, if_neg n10]

set_option maxHeartbeats 800000 in
theorem notation_any (a : Int) (x : ByteArray) (w : World) (hs : x.size ≤ 1048576) :
    Calls Tryz.prog 198 #[.agg #[.int .i64 a, .string x]] w fun e w' => e = .returned (.string (Pl.fmtA a x)) ∧ Below w.heap.size w w' := by
  have HB := Lib.hid (Joins.below_alloc1 w (.cells #[.int .i64 a, .string x] 161))
  by_cases h : a = 1 ∨ a = 2 ∨ a = 3 ∨ a = 4 ∨ a = 5 ∨ a = 8 ∨ a = 9 ∨ a = 10
  · rcases h with rfl | rfl | rfl | rfl | rfl | rfl | rfl | rfl
    all_goals
      go_enter Tryz.func198, Tryz.ntmps198
      go_wp2
      go_ret
      exact ⟨rfl, HB.out⟩
  · have n1 : ¬ a = 1 := by omega
    have n2 : ¬ a = 2 := by omega
    have n3 : ¬ a = 3 := by omega
    have n4 : ¬ a = 4 := by omega
    have n5 : ¬ a = 5 := by omega
    have n8 : ¬ a = 8 := by omega
    have n9 : ¬ a = 9 := by omega
    have n10 : ¬ a = 10 := by omega
    have E := Lib.hid (Pl.fmtE (x := x) n1 n2 n3 n4 n5 n8 n9 n10)
    clear h
    go_enter Tryz.func198, Tryz.ntmps198
    go_wp2
    go_ret
    exact ⟨ret_str E.out.symm, HB.out⟩

set_option maxHeartbeats 800000 in
theorem l5Format_any (a : Int) (x : ByteArray) (w : World) (hs : x.size ≤ 1048576) :
    Calls Tryz.prog 142 #[.agg #[.int .i64 a, .string x]] w fun e w' => e = .returned (.string (Pl.fmtA a x)) ∧ Below w.heap.size w w' := by
  have HB := Lib.hid (Joins.below_alloc1 w (.cells #[.int .i64 a, .string x] 161))
  by_cases h : a = 1 ∨ a = 2 ∨ a = 3 ∨ a = 4 ∨ a = 5 ∨ a = 8 ∨ a = 9 ∨ a = 10
  · rcases h with rfl | rfl | rfl | rfl | rfl | rfl | rfl | rfl
    all_goals
      go_enter Tryz.func142, Tryz.ntmps142
      go_wp2
      go_ret
      exact ⟨rfl, HB.out⟩
  · have n1 : ¬ a = 1 := by omega
    have n2 : ¬ a = 2 := by omega
    have n3 : ¬ a = 3 := by omega
    have n4 : ¬ a = 4 := by omega
    have n5 : ¬ a = 5 := by omega
    have n8 : ¬ a = 8 := by omega
    have n9 : ¬ a = 9 := by omega
    have n10 : ¬ a = 10 := by omega
    have E := Lib.hid (Pl.fmtE (x := x) n1 n2 n3 n4 n5 n8 n9 n10)
    clear h
    go_enter Tryz.func142, Tryz.ntmps142
    go_wp2
    go_ret
    exact ⟨ret_str E.out.symm, HB.out⟩

set_option maxHeartbeats 400000 in
theorem FormatAtom_yes (a : Int) (x : ByteArray) (w : World) (hs : x.size ≤ 1048576) (h : Pl.atomOk a x = true) :
    Calls Tryz.prog 176 #[.agg #[.int .i64 a, .string x]] w fun e w' => e = .returned (.tuple #[.string (Pl.fmtA a x), .bool true]) ∧ Below w.heap.size w w' := by
  have hs' : x.size ≤ maxLen := by unfold maxLen; omega
  have ca : (w.alloc (.cells #[.int .i64 a, .string x] 161)).cell? ⟨w.heap.size, 0, none⟩ = some (.int .i64 a) := by simp [go_sem]
  have cb : (w.alloc (.cells #[.int .i64 a, .string x] 161)).cell? ⟨w.heap.size, 1, none⟩ = some (.string x) := by simp [go_sem]
  have CA := Lib.hid ca; have CB := Lib.hid cb; clear ca cb
  have HB := Lib.hid (Joins.below_alloc1 w (.cells #[.int .i64 a, .string x] 161))
  go_enter Tryz.func176, Tryz.ntmps176
  go_wp2_with (first
    | (go_at_call 197; (with_reducible refine (IsValidAtom_any _ _ _ hs').mono ?_); rintro e w1 ⟨he, hb1⟩; rw [h] at he; subst he; have c1 := keepcT hb1 CA.out; have c2 := keepcT hb1 CB.out; have B1 := Lib.hid (HB.out.trans (hb1.mono HB.out.size)); clear hb1)
    | (go_at_call 198; (with_reducible refine (notation_any _ _ _ hs).mono ?_); rintro e w2 ⟨rfl, hb2⟩; have B2 := Lib.hid (B1.out.trans (hb2.mono B1.out.size)); clear hb2))
  go_ret2
  exact ⟨rfl, B2.out⟩
set_option maxHeartbeats 400000 in
theorem FormatAtom_no (a : Int) (x : ByteArray) (w : World) (hs : x.size ≤ 1048576) (h : Pl.atomOk a x = false) :
    Calls Tryz.prog 176 #[.agg #[.int .i64 a, .string x]] w fun e w' => e = .returned (.tuple #[.string ⟨#[]⟩, .bool false]) ∧ Below w.heap.size w w' := by
  have hs' : x.size ≤ maxLen := by unfold maxLen; omega
  have HB := Lib.hid (Joins.below_alloc1 w (.cells #[.int .i64 a, .string x] 161))
  go_enter Tryz.func176, Tryz.ntmps176
  go_wp2_with (go_at_call 197; (with_reducible refine (IsValidAtom_any _ _ _ hs').mono ?_); rintro e w1 ⟨he, hb1⟩; rw [h] at he; subst he; have B1 := Lib.hid (HB.out.trans (hb1.mono HB.out.size)); clear hb1)
  go_ret2
  exact ⟨rfl, B1.out⟩

theorem Pl.kindA_no {s : ByteArray} (h : Pl.braced s = false) : Pl.kindA s = (1, s) := by unfold Pl.kindA; rw [if_neg (by rw [h]; decide)]
theorem Pl.kindA_yes {s : ByteArray} (h : Pl.braced s = true) : Pl.kindA s = Pl.kindM (s.extract 1 (s.size - 1)) := by unfold Pl.kindA; rw [if_pos h]
theorem ret_atom {a b : Int} {x y : ByteArray} {p : Int × ByteArray} (h : p = (b, y)) (h1 : a = b) (h2 : x = y) : Ending.returned (.agg #[.int .i64 a, .string x]) = .returned (.agg #[.int .i64 p.1, .string p.2]) := by subst h; subst h1; subst h2; rfl

theorem Pl.kindM_open {m : ByteArray} (a1 : (m.toList == [45, 124]) = false) (a2 : (m.toList == [62]) = false) (a3 : (m.toList == [42, 45, 124]) = false) (s : Pl.isStop m = false) (p : Pl.isPause m = false) :
    Pl.kindM m = (if Pl.byteAt m 0 = 38 then (5, m.extract 1 m.size)
      else if Pl.byteAt m 0 = 94 ∧ Pl.byteAt m (m.size - 1) = 94 ∧ 2 < m.size then (4, m.extract 1 (m.size - 1))
      else if Pl.byteAt m 0 = 94 then (2, m.extract 1 m.size)
      else if Pl.byteAt m (m.size - 1) = 94 then (3, m.extract 0 (m.size - 1))
      else (0, ⟨#[]⟩)) := by
  unfold Pl.kindM
  rw [a1, a2, a3, s, p, if_neg (by decide), if_neg (by decide), if_neg (by decide), if_neg (by decide), if_neg (by decide)]

set_option maxRecDepth 20000 in
set_option maxHeartbeats 3200000 in
theorem l5Kind_any (s : ByteArray) (w : World) (hs : s.size ≤ 1048576) :
    Calls Tryz.prog 173 #[.string s] w fun e w' => e = .returned (.agg #[.int .i64 (Pl.kindA s).1, .string (Pl.kindA s).2]) ∧ Below w.heap.size w w' := by
  by_cases hz : s.size < 3
  · have E := Lib.hid (Pl.kindA_no (s := s) (by unfold Pl.braced; rw [decide_eq_false (by omega)]; rfl))
    have hz' : (s.size : Int) < 3 := by omega
    go_enter Tryz.func173, Tryz.ntmps173
    go_wp2
    exact bodyPost_ret (v := .agg #[.int .i64 1, .string s]) (by simp [results, Tryz.results173, go_sem, *]) rfl ⟨ret_atom E.out rfl rfl, (by repeat (first | with_reducible exact Below.refl _ _ | with_reducible assumption | with_reducible refine Below.alloc ?_ ?_ _ | with_reducible refine Below.setCell ?_ ?_ _ | with_reducible refine Below.drew ?_ | with_reducible refine below_drewN ?_ _ | with_reducible refine Below.trans ?_ (Below.mono (by assumption) ?_) | omega | ((repeat (first | rw [World.size_alloc] | rw [size_setCell] | rw [size_drewN] | rw [size_drew])); omega) | exact Nat.le_refl _ | (dsimp only; omega) | (simp [World.setCell]; omega)))⟩
  have hz' : ¬ (s.size : Int) < 3 := by omega
  have hp : 0 < s.size := by omega
  have hl : s.size - 1 < s.size := by omega
  have e0 := Pl.byteAt_eq s 0 hp
  have e1 := Pl.byteAt_eq s (s.size - 1) hl
  have r0 : (s[0].toNat : Int) < 256 := by have := s[0].toNat_lt; omega
  have r1 : (s[s.size - 1].toNat : Int) < 256 := by have := s[s.size - 1].toNat_lt; omega
  by_cases h0 : (s[0].toNat : Int) = 123
  · by_cases h1 : (s[s.size - 1].toNat : Int) = 125
    · have E := Lib.hid (Pl.kindA_yes (s := s) (by unfold Pl.braced; rw [← e0, ← e1, h0, h1, decide_eq_true (by omega)]; rfl))
      have t0 : ((s[0].toNat : Int) != 123) = false := by rw [h0]; rfl
      have t1 : ((s[s.size - 1].toNat : Int) != 125) = false := by rw [h1]; rfl
      have hm1 : (s.extract 1 (s.size - 1)).size = s.size - 2 := by rw [ByteArray.size_extract]; omega
      have i0 : (0 : Int) ≤ (s.size : Int) - 1 := by omega
      have i1 : (1 : Int) ≤ (s.size : Int) - 1 := by omega
      have i2 : (s.size : Int) - 1 ≤ (s.size : Int) := by omega
      have i3 : ((s.size : Int) - 1).toNat = s.size - 1 := by omega
      clear e0 e1
      obtain ⟨m, hm⟩ : ∃ m, m = s.extract 1 (s.size - 1) := ⟨_, rfl⟩
      rw [← hm] at E hm1
      have HM := Lib.hid hm
      clear hm
      go_enter Tryz.func173, Tryz.ntmps173
      go_upto_region 5 with fail
      rw [← HM.out]
      have mp : 0 < m.size := by omega
      have ml : m.size - 1 < m.size := by omega
      have j0 : (0 : Int) ≤ (m.size : Int) - 1 := by omega
      have j2 : (m.size : Int) - 1 ≤ (m.size : Int) := by omega
      have j3 : ((m.size : Int) - 1).toNat = m.size - 1 := by omega
      have j4 : (1 : Int) ≤ (m.size : Int) := by omega
      have b0 := Pl.byteAt_eq m 0 mp
      have b1 := Pl.byteAt_eq m (m.size - 1) ml
      have q0 : (m[0].toNat : Int) < 256 := by have := m[0].toNat_lt; omega
      have q1 : (m[m.size - 1].toNat : Int) < 256 := by have := m[m.size - 1].toNat_lt; omega
      have mz : m.size ≤ 1048576 := by omega
      clear hm1 HM hp hl r0 r1 h0 h1 t0 t1 hz hz' i0 i1 i2 i3
      by_cases a1y : (m.toList == [45, 124]) = true
      · have a1 := a1y
        clear a1y
        go_wp2
        exact bodyPost_ret (v := .agg #[.int .i64 8, .string ⟨#[]⟩]) (by simp [results, Tryz.results173, go_sem, *]) rfl ⟨ret_atom (E.out.trans (by simp [Pl.kindM, a1])) rfl rfl, (by repeat (first | with_reducible exact Below.refl _ _ | with_reducible assumption | with_reducible refine Below.alloc ?_ ?_ _ | with_reducible refine Below.setCell ?_ ?_ _ | with_reducible refine Below.drew ?_ | with_reducible refine below_drewN ?_ _ | with_reducible refine Below.trans ?_ (Below.mono (by assumption) ?_) | omega | ((repeat (first | rw [World.size_alloc] | rw [size_setCell] | rw [size_drewN] | rw [size_drew])); omega) | exact Nat.le_refl _ | (dsimp only; omega) | (simp [World.setCell]; omega)))⟩
      have a1 := eq_false_of_ne_true a1y
      clear a1y
      by_cases a2y : (m.toList == [62]) = true
      · have a2 := a2y
        clear a2y
        go_wp2
        exact bodyPost_ret (v := .agg #[.int .i64 9, .string ⟨#[]⟩]) (by simp [results, Tryz.results173, go_sem, *]) rfl ⟨ret_atom (E.out.trans (by simp [Pl.kindM, a1, a2])) rfl rfl, (by repeat (first | with_reducible exact Below.refl _ _ | with_reducible assumption | with_reducible refine Below.alloc ?_ ?_ _ | with_reducible refine Below.setCell ?_ ?_ _ | with_reducible refine Below.drew ?_ | with_reducible refine below_drewN ?_ _ | with_reducible refine Below.trans ?_ (Below.mono (by assumption) ?_) | omega | ((repeat (first | rw [World.size_alloc] | rw [size_setCell] | rw [size_drewN] | rw [size_drew])); omega) | exact Nat.le_refl _ | (dsimp only; omega) | (simp [World.setCell]; omega)))⟩
      have a2 := eq_false_of_ne_true a2y
      clear a2y
      by_cases a3y : (m.toList == [42, 45, 124]) = true
      · have a3 := a3y
        clear a3y
        go_wp2
        exact bodyPost_ret (v := .agg #[.int .i64 10, .string ⟨#[]⟩]) (by simp [results, Tryz.results173, go_sem, *]) rfl ⟨ret_atom (E.out.trans (by simp [Pl.kindM, a1, a2, a3])) rfl rfl, (by repeat (first | with_reducible exact Below.refl _ _ | with_reducible assumption | with_reducible refine Below.alloc ?_ ?_ _ | with_reducible refine Below.setCell ?_ ?_ _ | with_reducible refine Below.drew ?_ | with_reducible refine below_drewN ?_ _ | with_reducible refine Below.trans ?_ (Below.mono (by assumption) ?_) | omega | ((repeat (first | rw [World.size_alloc] | rw [size_setCell] | rw [size_drewN] | rw [size_drew])); omega) | exact Nat.le_refl _ | (dsimp only; omega) | (simp [World.setCell]; omega)))⟩
      have a3 := eq_false_of_ne_true a3y
      clear a3y
      by_cases s1y : (m.toList == [46]) = true
      · have s1 := s1y
        clear s1y
        go_wp2
        exact bodyPost_ret (v := .agg #[.int .i64 6, .string m]) (by simp [results, Tryz.results173, go_sem, *]) rfl ⟨ret_atom (E.out.trans (by simp [Pl.kindM, a1, a2, a3, Pl.isStop, s1])) rfl rfl, (by repeat (first | with_reducible exact Below.refl _ _ | with_reducible assumption | with_reducible refine Below.alloc ?_ ?_ _ | with_reducible refine Below.setCell ?_ ?_ _ | with_reducible refine Below.drew ?_ | with_reducible refine below_drewN ?_ _ | with_reducible refine Below.trans ?_ (Below.mono (by assumption) ?_) | omega | ((repeat (first | rw [World.size_alloc] | rw [size_setCell] | rw [size_drewN] | rw [size_drew])); omega) | exact Nat.le_refl _ | (dsimp only; omega) | (simp [World.setCell]; omega)))⟩
      have s1 := eq_false_of_ne_true s1y
      clear s1y
      by_cases s2y : (m.toList == [33]) = true
      · have s2 := s2y
        clear s2y
        go_wp2
        exact bodyPost_ret (v := .agg #[.int .i64 6, .string m]) (by simp [results, Tryz.results173, go_sem, *]) rfl ⟨ret_atom (E.out.trans (by simp [Pl.kindM, a1, a2, a3, Pl.isStop, s1, s2])) rfl rfl, (by repeat (first | with_reducible exact Below.refl _ _ | with_reducible assumption | with_reducible refine Below.alloc ?_ ?_ _ | with_reducible refine Below.setCell ?_ ?_ _ | with_reducible refine Below.drew ?_ | with_reducible refine below_drewN ?_ _ | with_reducible refine Below.trans ?_ (Below.mono (by assumption) ?_) | omega | ((repeat (first | rw [World.size_alloc] | rw [size_setCell] | rw [size_drewN] | rw [size_drew])); omega) | exact Nat.le_refl _ | (dsimp only; omega) | (simp [World.setCell]; omega)))⟩
      have s2 := eq_false_of_ne_true s2y
      clear s2y
      by_cases s3y : (m.toList == [63]) = true
      · have s3 := s3y
        clear s3y
        go_wp2
        exact bodyPost_ret (v := .agg #[.int .i64 6, .string m]) (by simp [results, Tryz.results173, go_sem, *]) rfl ⟨ret_atom (E.out.trans (by simp [Pl.kindM, a1, a2, a3, Pl.isStop, s1, s2, s3])) rfl rfl, (by repeat (first | with_reducible exact Below.refl _ _ | with_reducible assumption | with_reducible refine Below.alloc ?_ ?_ _ | with_reducible refine Below.setCell ?_ ?_ _ | with_reducible refine Below.drew ?_ | with_reducible refine below_drewN ?_ _ | with_reducible refine Below.trans ?_ (Below.mono (by assumption) ?_) | omega | ((repeat (first | rw [World.size_alloc] | rw [size_setCell] | rw [size_drewN] | rw [size_drew])); omega) | exact Nat.le_refl _ | (dsimp only; omega) | (simp [World.setCell]; omega)))⟩
      have s3 := eq_false_of_ne_true s3y
      clear s3y
      by_cases p1y : (m.toList == [44]) = true
      · have p1 := p1y
        clear p1y
        go_wp2
        exact bodyPost_ret (v := .agg #[.int .i64 7, .string m]) (by simp [results, Tryz.results173, go_sem, *]) rfl ⟨ret_atom (E.out.trans (by simp [Pl.kindM, a1, a2, a3, Pl.isStop, s1, s2, s3, Pl.isPause, p1])) rfl rfl, (by repeat (first | with_reducible exact Below.refl _ _ | with_reducible assumption | with_reducible refine Below.alloc ?_ ?_ _ | with_reducible refine Below.setCell ?_ ?_ _ | with_reducible refine Below.drew ?_ | with_reducible refine below_drewN ?_ _ | with_reducible refine Below.trans ?_ (Below.mono (by assumption) ?_) | omega | ((repeat (first | rw [World.size_alloc] | rw [size_setCell] | rw [size_drewN] | rw [size_drew])); omega) | exact Nat.le_refl _ | (dsimp only; omega) | (simp [World.setCell]; omega)))⟩
      have p1 := eq_false_of_ne_true p1y
      clear p1y
      by_cases p2y : (m.toList == [59]) = true
      · have p2 := p2y
        clear p2y
        go_wp2
        exact bodyPost_ret (v := .agg #[.int .i64 7, .string m]) (by simp [results, Tryz.results173, go_sem, *]) rfl ⟨ret_atom (E.out.trans (by simp [Pl.kindM, a1, a2, a3, Pl.isStop, s1, s2, s3, Pl.isPause, p1, p2])) rfl rfl, (by repeat (first | with_reducible exact Below.refl _ _ | with_reducible assumption | with_reducible refine Below.alloc ?_ ?_ _ | with_reducible refine Below.setCell ?_ ?_ _ | with_reducible refine Below.drew ?_ | with_reducible refine below_drewN ?_ _ | with_reducible refine Below.trans ?_ (Below.mono (by assumption) ?_) | omega | ((repeat (first | rw [World.size_alloc] | rw [size_setCell] | rw [size_drewN] | rw [size_drew])); omega) | exact Nat.le_refl _ | (dsimp only; omega) | (simp [World.setCell]; omega)))⟩
      have p2 := eq_false_of_ne_true p2y
      clear p2y
      by_cases p3y : (m.toList == [58]) = true
      · have p3 := p3y
        clear p3y
        go_wp2
        exact bodyPost_ret (v := .agg #[.int .i64 7, .string m]) (by simp [results, Tryz.results173, go_sem, *]) rfl ⟨ret_atom (E.out.trans (by simp [Pl.kindM, a1, a2, a3, Pl.isStop, s1, s2, s3, Pl.isPause, p1, p2, p3])) rfl rfl, (by repeat (first | with_reducible exact Below.refl _ _ | with_reducible assumption | with_reducible refine Below.alloc ?_ ?_ _ | with_reducible refine Below.setCell ?_ ?_ _ | with_reducible refine Below.drew ?_ | with_reducible refine below_drewN ?_ _ | with_reducible refine Below.trans ?_ (Below.mono (by assumption) ?_) | omega | ((repeat (first | rw [World.size_alloc] | rw [size_setCell] | rw [size_drewN] | rw [size_drew])); omega) | exact Nat.le_refl _ | (dsimp only; omega) | (simp [World.setCell]; omega)))⟩
      have p3 := eq_false_of_ne_true p3y
      clear p3y
      have EM := Lib.hid (show Pl.kindM m = _ from Pl.kindM_open a1 a2 a3 (by simp [Pl.isStop, s1, s2, s3]) (by simp [Pl.isPause, p1, p2, p3]))
      by_cases c38 : (m[0].toNat : Int) = 38
      · have u1 : ((m[0].toNat : Int) == 38) = true := by rw [c38]; rfl
        have EK := Lib.hid (E.out.trans (EM.out.trans (by rw [if_pos (b0 ▸ c38)])))
        clear b0 b1 c38 E EM
        go_wp2
        exact bodyPost_ret (v := .agg #[.int .i64 5, .string (m.extract 1 m.size)]) (by simp [results, Tryz.results173, go_sem, *]) rfl ⟨ret_atom EK.out rfl rfl, (by repeat (first | with_reducible exact Below.refl _ _ | with_reducible assumption | with_reducible refine Below.alloc ?_ ?_ _ | with_reducible refine Below.setCell ?_ ?_ _ | with_reducible refine Below.drew ?_ | with_reducible refine below_drewN ?_ _ | with_reducible refine Below.trans ?_ (Below.mono (by assumption) ?_) | omega | ((repeat (first | rw [World.size_alloc] | rw [size_setCell] | rw [size_drewN] | rw [size_drew])); omega) | exact Nat.le_refl _ | (dsimp only; omega) | (simp [World.setCell]; omega)))⟩
      have u1 : ((m[0].toNat : Int) == 38) = false := beq_eq_false_iff_ne.2 c38
      by_cases c94 : (m[0].toNat : Int) = 94
      · have u2 : ((m[0].toNat : Int) == 94) = true := by rw [c94]; rfl
        by_cases l94 : (m[m.size - 1].toNat : Int) = 94 ∧ 2 < m.size
        · have u3 : ((m[m.size - 1].toNat : Int) == 94) = true := by rw [l94.1]; rfl
          have u4 : (2 : Int) < (m.size : Int) := by omega
          have u5 : decide ((2 : Int) < (m.size : Int)) = true := decide_eq_true u4
          have EK := Lib.hid (E.out.trans (EM.out.trans (by rw [if_neg (b0 ▸ c38), if_pos ⟨b0 ▸ c94, b1 ▸ l94.1, l94.2⟩])))
          have j5 : (1 : Int) ≤ (m.size : Int) - 1 := by omega
          clear b0 b1 c38 c94 E EM l94
          go_wp2
          exact bodyPost_ret (v := .agg #[.int .i64 4, .string (m.extract 1 (m.size - 1))]) (by simp [results, Tryz.results173, go_sem, *]) rfl ⟨ret_atom EK.out rfl rfl, (by repeat (first | with_reducible exact Below.refl _ _ | with_reducible assumption | with_reducible refine Below.alloc ?_ ?_ _ | with_reducible refine Below.setCell ?_ ?_ _ | with_reducible refine Below.drew ?_ | with_reducible refine below_drewN ?_ _ | with_reducible refine Below.trans ?_ (Below.mono (by assumption) ?_) | omega | ((repeat (first | rw [World.size_alloc] | rw [size_setCell] | rw [size_drewN] | rw [size_drew])); omega) | exact Nat.le_refl _ | (dsimp only; omega) | (simp [World.setCell]; omega)))⟩
        · have EK := Lib.hid (E.out.trans (EM.out.trans (by rw [if_neg (b0 ▸ c38), if_neg (fun h => l94 ⟨b1 ▸ h.2.1, h.2.2⟩), if_pos (b0 ▸ c94)])))
          by_cases x94 : (m[m.size - 1].toNat : Int) = 94
          · have u3 : ((m[m.size - 1].toNat : Int) == 94) = true := by rw [x94]; rfl
            have u4 : ¬ (2 : Int) < (m.size : Int) := fun h => l94 ⟨x94, by omega⟩
            have u5 : decide ((2 : Int) < (m.size : Int)) = false := decide_eq_false u4
            clear b0 b1 c38 c94 E EM l94
            go_wp2
            exact bodyPost_ret (v := .agg #[.int .i64 2, .string (m.extract 1 m.size)]) (by simp [results, Tryz.results173, go_sem, *]) rfl ⟨ret_atom EK.out rfl rfl, (by repeat (first | with_reducible exact Below.refl _ _ | with_reducible assumption | with_reducible refine Below.alloc ?_ ?_ _ | with_reducible refine Below.setCell ?_ ?_ _ | with_reducible refine Below.drew ?_ | with_reducible refine below_drewN ?_ _ | with_reducible refine Below.trans ?_ (Below.mono (by assumption) ?_) | omega | ((repeat (first | rw [World.size_alloc] | rw [size_setCell] | rw [size_drewN] | rw [size_drew])); omega) | exact Nat.le_refl _ | (dsimp only; omega) | (simp [World.setCell]; omega)))⟩
          · have u3 : ((m[m.size - 1].toNat : Int) == 94) = false := beq_eq_false_iff_ne.2 x94
            clear b0 b1 c38 c94 E EM l94
            go_wp2
            exact bodyPost_ret (v := .agg #[.int .i64 2, .string (m.extract 1 m.size)]) (by simp [results, Tryz.results173, go_sem, *]) rfl ⟨ret_atom EK.out rfl rfl, (by repeat (first | with_reducible exact Below.refl _ _ | with_reducible assumption | with_reducible refine Below.alloc ?_ ?_ _ | with_reducible refine Below.setCell ?_ ?_ _ | with_reducible refine Below.drew ?_ | with_reducible refine below_drewN ?_ _ | with_reducible refine Below.trans ?_ (Below.mono (by assumption) ?_) | omega | ((repeat (first | rw [World.size_alloc] | rw [size_setCell] | rw [size_drewN] | rw [size_drew])); omega) | exact Nat.le_refl _ | (dsimp only; omega) | (simp [World.setCell]; omega)))⟩
      have u2 : ((m[0].toNat : Int) == 94) = false := beq_eq_false_iff_ne.2 c94
      by_cases x94 : (m[m.size - 1].toNat : Int) = 94
      · have u3 : ((m[m.size - 1].toNat : Int) == 94) = true := by rw [x94]; rfl
        have EK := Lib.hid (E.out.trans (EM.out.trans (by rw [if_neg (b0 ▸ c38), if_neg (fun h => c94 (b0 ▸ h.1)), if_neg (b0 ▸ c94), if_pos (b1 ▸ x94)])))
        clear b0 b1 c38 c94 E EM
        go_wp2
        exact bodyPost_ret (v := .agg #[.int .i64 3, .string (m.extract 0 (m.size - 1))]) (by simp [results, Tryz.results173, go_sem, *]) rfl ⟨ret_atom EK.out rfl rfl, (by repeat (first | with_reducible exact Below.refl _ _ | with_reducible assumption | with_reducible refine Below.alloc ?_ ?_ _ | with_reducible refine Below.setCell ?_ ?_ _ | with_reducible refine Below.drew ?_ | with_reducible refine below_drewN ?_ _ | with_reducible refine Below.trans ?_ (Below.mono (by assumption) ?_) | omega | ((repeat (first | rw [World.size_alloc] | rw [size_setCell] | rw [size_drewN] | rw [size_drew])); omega) | exact Nat.le_refl _ | (dsimp only; omega) | (simp [World.setCell]; omega)))⟩
      · have u3 : ((m[m.size - 1].toNat : Int) == 94) = false := beq_eq_false_iff_ne.2 x94
        have EK := Lib.hid (E.out.trans (EM.out.trans (by rw [if_neg (b0 ▸ c38), if_neg (fun h => c94 (b0 ▸ h.1)), if_neg (b0 ▸ c94), if_neg (b1 ▸ x94)])))
        clear b0 b1 c38 c94 E EM
        go_wp2
        exact bodyPost_ret (v := .agg #[.int .i64 0, .string (⟨#[]⟩ : ByteArray)]) (by simp [results, Tryz.results173, go_sem, *]) rfl ⟨ret_atom EK.out rfl rfl, (by repeat (first | with_reducible exact Below.refl _ _ | with_reducible assumption | with_reducible refine Below.alloc ?_ ?_ _ | with_reducible refine Below.setCell ?_ ?_ _ | with_reducible refine Below.drew ?_ | with_reducible refine below_drewN ?_ _ | with_reducible refine Below.trans ?_ (Below.mono (by assumption) ?_) | omega | ((repeat (first | rw [World.size_alloc] | rw [size_setCell] | rw [size_drewN] | rw [size_drew])); omega) | exact Nat.le_refl _ | (dsimp only; omega) | (simp [World.setCell]; omega)))⟩
    · have E := Lib.hid (Pl.kindA_no (s := s) (by unfold Pl.braced; rw [← e1, beq_eq_false_iff_ne.2 h1, Bool.and_false]))
      have t0 : ((s[0].toNat : Int) != 123) = false := by rw [h0]; rfl
      have t1 : ((s[s.size - 1].toNat : Int) != 125) = true := by rw [bne_iff_ne]; exact h1
      clear e0 e1
      go_enter Tryz.func173, Tryz.ntmps173
      go_wp2
      exact bodyPost_ret (v := .agg #[.int .i64 1, .string s]) (by simp [results, Tryz.results173, go_sem, *]) rfl ⟨ret_atom E.out rfl rfl, (by repeat (first | with_reducible exact Below.refl _ _ | with_reducible assumption | with_reducible refine Below.alloc ?_ ?_ _ | with_reducible refine Below.setCell ?_ ?_ _ | with_reducible refine Below.drew ?_ | with_reducible refine below_drewN ?_ _ | with_reducible refine Below.trans ?_ (Below.mono (by assumption) ?_) | omega | ((repeat (first | rw [World.size_alloc] | rw [size_setCell] | rw [size_drewN] | rw [size_drew])); omega) | exact Nat.le_refl _ | (dsimp only; omega) | (simp [World.setCell]; omega)))⟩
  · have E := Lib.hid (Pl.kindA_no (s := s) (by unfold Pl.braced; rw [← e0, beq_eq_false_iff_ne.2 h0, Bool.and_false, Bool.false_and]))
    have t0 : ((s[0].toNat : Int) != 123) = true := by rw [bne_iff_ne]; exact h0
    clear e0 e1
    go_enter Tryz.func173, Tryz.ntmps173
    go_wp2
    exact bodyPost_ret (v := .agg #[.int .i64 1, .string s]) (by simp [results, Tryz.results173, go_sem, *]) rfl ⟨ret_atom E.out rfl rfl, (by repeat (first | with_reducible exact Below.refl _ _ | with_reducible assumption | with_reducible refine Below.alloc ?_ ?_ _ | with_reducible refine Below.setCell ?_ ?_ _ | with_reducible refine Below.drew ?_ | with_reducible refine below_drewN ?_ _ | with_reducible refine Below.trans ?_ (Below.mono (by assumption) ?_) | omega | ((repeat (first | rw [World.size_alloc] | rw [size_setCell] | rw [size_drewN] | rw [size_drew])); omega) | exact Nat.le_refl _ | (dsimp only; omega) | (simp [World.setCell]; omega)))⟩

end Go.Proofs.YtdidgaibgkdjoaaGreatDoor

namespace Go.Proofs.YtdidgaibgkdjoaaGreatDoor
open Go.RowKit

theorem Pl.kindA_size (s : ByteArray) : (Pl.kindA s).2.size ≤ s.size := by
  have z : ∀ (m : ByteArray) (i j : Nat), j ≤ m.size → (m.extract i j).size ≤ m.size := fun m i j h => by rw [ByteArray.size_extract]; omega
  have n0 : (⟨#[]⟩ : ByteArray).size = 0 := rfl
  have hm : ∀ m : ByteArray, (Pl.kindM m).2.size ≤ m.size := by
    intro m
    unfold Pl.kindM
    repeat' split
    all_goals first
      | exact Nat.zero_le _
      | exact Nat.le_refl _
      | exact z _ _ _ (Nat.le_refl _)
      | exact z _ _ _ (Nat.sub_le _ _)
  unfold Pl.kindA
  split
  · exact Nat.le_trans (hm _) (z _ _ _ (Nat.sub_le _ _))
  · exact Nat.le_refl _
theorem Pl.parse_is {s x : ByteArray} {a : Int} (h : Pl.kindA s = (a, x)) : Pl.parseOk s = (Pl.atomOk a x && ((Pl.fmtA a x).toList == s.toList)) ∧ Pl.parseA s = if (Pl.atomOk a x && ((Pl.fmtA a x).toList == s.toList)) = true then (a, x) else (0, ⟨#[]⟩) := by
  have e : Pl.parseOk s = (Pl.atomOk a x && ((Pl.fmtA a x).toList == s.toList)) := by unfold Pl.parseOk Pl.hit; rw [h]
  exact ⟨e, by unfold Pl.parseA; rw [e, h]⟩
theorem ret_atomb {a b : Int} {x y : ByteArray} {p : Int × ByteArray} {u v : Bool} (h : p = (b, y)) (hu : v = u) (h1 : a = b) (h2 : x = y) : Ending.returned (.tuple #[.agg #[.int .i64 a, .string x], .bool u]) = .returned (.tuple #[.agg #[.int .i64 p.1, .string p.2], .bool v]) := by subst h; subst h1; subst h2; subst hu; rfl

set_option maxHeartbeats 1600000 in
theorem specParseAtom_any (s : ByteArray) (w : World) (hs : s.size ≤ 1048576) :
    Calls Tryz.prog 154 #[.string s] w fun e w' => e = .returned (.tuple #[.agg #[.int .i64 (Pl.parseA s).1, .string (Pl.parseA s).2], .bool (Pl.parseOk s)]) ∧ Below w.heap.size w w' := by
  have HK := Lib.hid (fun W => l5Kind_any s W hs)
  have hx := Pl.kindA_size s
  obtain ⟨a, x, hk⟩ : ∃ a x, Pl.kindA s = (a, x) := ⟨_, _, rfl⟩
  obtain ⟨E1, E2⟩ := Pl.parse_is hk
  rw [hk] at HK hx
  replace hx : x.size ≤ s.size := hx
  have hx1 : x.size ≤ maxLen := by unfold maxLen; omega
  have hx2 : x.size ≤ 1048576 := by omega
  have c0 : (w.alloc (.cells #[.int .i64 0, .string ⟨#[]⟩] 161)).cell? ⟨w.heap.size, 0, none⟩ = some (.int .i64 0) := by simp [go_sem]
  have c1 : (w.alloc (.cells #[.int .i64 0, .string ⟨#[]⟩] 161)).cell? ⟨w.heap.size, 1, none⟩ = some (.string ⟨#[]⟩) := by simp [go_sem]
  have f0 : ∀ i, (w.alloc (.cells #[.int .i64 0, .string ⟨#[]⟩] 161)).frozen? ⟨w.heap.size, i, none⟩ = false := fun i => by simp [go_sem]
  have C0 := Lib.hid c0; have C1 := Lib.hid c1; have F0 := Lib.hid f0
  have HB := Lib.hid (Joins.below_alloc1 w (.cells #[.int .i64 0, .string ⟨#[]⟩] 161))
  clear c0 c1 f0 hk
  cases h1 : Pl.atomOk a x
  · rw [h1, Bool.false_and] at E1 E2
    have HE1 := Lib.hid E1; have HE2 := Lib.hid E2; clear E1 E2
    go_enter Tryz.func154, Tryz.ntmps154
    go_wp2_with (first
      | (go_at_call 126; (with_reducible refine (l5Good_any _ _ _ hx1).mono ?_); rintro e w2 ⟨he, hb2⟩; rw [h1] at he; subst he; have q0 := keepcT hb2 (keepcT (Joins.below_alloc1 w1 _) p0); have q1 := keepcT hb2 (keepcT (Joins.below_alloc1 w1 _) p1); have r0 : w2.frozen? ⟨w.heap.size, 0, none⟩ = false := ((bcell hb2).2 w.heap.size 0 (by rw [World.size_alloc]; omega)).trans (((bcell (Joins.below_alloc1 w1 _)).2 w.heap.size 0 hl1).trans g0); have r1 : w2.frozen? ⟨w.heap.size, 1, none⟩ = false := ((bcell hb2).2 w.heap.size 1 (by rw [World.size_alloc]; omega)).trans (((bcell (Joins.below_alloc1 w1 _)).2 w.heap.size 1 hl1).trans g1); have d0 : w2.cell? ⟨w1.heap.size, 0, none⟩ = some (.int .i64 a) := keepcT hb2 (by simp [go_sem]); have d1 : w2.cell? ⟨w1.heap.size, 1, none⟩ = some (.string x) := keepcT hb2 (by simp [go_sem]); have B2 := Lib.hid ((B1.out.trans ((Joins.below_alloc1 w1 _).mono B1.out.size)).trans (hb2.mono (Nat.le_trans B1.out.size (Joins.below_alloc1 w1 _).size))); have hl2 : w.heap.size < w2.heap.size := World.block_lt_of_cell? _ _ q0; clear hb2 p0 p1 g0 g1)
      | (go_at_call 173; (with_reducible refine (HK.out _).mono ?_); rintro e w1 ⟨rfl, hb1⟩; have p0 := keepcT hb1 C0.out; have p1 := keepcT hb1 C1.out; have g0 := ((bcell hb1).2 w.heap.size 0 (by rw [World.size_alloc]; omega)).trans (F0.out 0); have g1 := ((bcell hb1).2 w.heap.size 1 (by rw [World.size_alloc]; omega)).trans (F0.out 1); have B1 := Lib.hid (HB.out.trans (hb1.mono HB.out.size)); have hl1 : w.heap.size < w1.heap.size := World.block_lt_of_cell? _ _ p0; clear hb1))
    have B2' := B2.out
    exact bodyPost_ret (v := .tuple #[.agg #[.int .i64 0, .string ⟨#[]⟩], .bool false]) (by simp [results, Tryz.results154, go_sem, *]) rfl ⟨ret_atomb HE2.out HE1.out rfl rfl, (by repeat (first | with_reducible exact Below.refl _ _ | with_reducible assumption | with_reducible refine Below.alloc ?_ ?_ _ | with_reducible refine Below.setCell ?_ ?_ _ | with_reducible refine Below.drew ?_ | with_reducible refine below_drewN ?_ _ | with_reducible refine Below.trans ?_ (Below.mono (by assumption) ?_) | omega | ((repeat (first | rw [World.size_alloc] | rw [size_setCell] | rw [size_drewN] | rw [size_drew])); omega) | exact Nat.le_refl _ | (dsimp only; omega) | (simp [World.setCell]; omega)))⟩
  · rw [h1, Bool.true_and] at E1 E2
    cases h2 : ((Pl.fmtA a x).toList == s.toList)
    · rw [h2] at E1 E2
      have HE1 := Lib.hid E1; have HE2 := Lib.hid E2; clear E1 E2
      have h3 : ((Pl.fmtA a x).toList != s.toList) = true := by rw [bne, h2]; rfl
      go_enter Tryz.func154, Tryz.ntmps154
      go_wp2_with (first
        | (go_at_call 142; (with_reducible refine (l5Format_any _ _ _ hx2).mono ?_); rintro e w3 ⟨rfl, hb3⟩; have q0' := keepcT hb3 q0; have q1' := keepcT hb3 q1; have r0' := ((bcell hb3).2 w.heap.size 0 hl2).trans r0; have r1' := ((bcell hb3).2 w.heap.size 1 hl2).trans r1; have d0' := keepcT hb3 d0; have d1' := keepcT hb3 d1; have B3 := Lib.hid (B2.out.trans (hb3.mono B2.out.size)); have hl3 : w.heap.size < w3.heap.size := World.block_lt_of_cell? _ _ q0'; clear hb3 q0 q1 r0 r1 d0 d1)
        | (go_at_call 126; (with_reducible refine (l5Good_any _ _ _ hx1).mono ?_); rintro e w2 ⟨he, hb2⟩; rw [h1] at he; subst he; have q0 := keepcT hb2 (keepcT (Joins.below_alloc1 w1 _) p0); have q1 := keepcT hb2 (keepcT (Joins.below_alloc1 w1 _) p1); have r0 : w2.frozen? ⟨w.heap.size, 0, none⟩ = false := ((bcell hb2).2 w.heap.size 0 (by rw [World.size_alloc]; omega)).trans (((bcell (Joins.below_alloc1 w1 _)).2 w.heap.size 0 hl1).trans g0); have r1 : w2.frozen? ⟨w.heap.size, 1, none⟩ = false := ((bcell hb2).2 w.heap.size 1 (by rw [World.size_alloc]; omega)).trans (((bcell (Joins.below_alloc1 w1 _)).2 w.heap.size 1 hl1).trans g1); have d0 : w2.cell? ⟨w1.heap.size, 0, none⟩ = some (.int .i64 a) := keepcT hb2 (by simp [go_sem]); have d1 : w2.cell? ⟨w1.heap.size, 1, none⟩ = some (.string x) := keepcT hb2 (by simp [go_sem]); have B2 := Lib.hid ((B1.out.trans ((Joins.below_alloc1 w1 _).mono B1.out.size)).trans (hb2.mono (Nat.le_trans B1.out.size (Joins.below_alloc1 w1 _).size))); have hl2 : w.heap.size < w2.heap.size := World.block_lt_of_cell? _ _ q0; clear hb2 p0 p1 g0 g1)
        | (go_at_call 173; (with_reducible refine (HK.out _).mono ?_); rintro e w1 ⟨rfl, hb1⟩; have p0 := keepcT hb1 C0.out; have p1 := keepcT hb1 C1.out; have g0 := ((bcell hb1).2 w.heap.size 0 (by rw [World.size_alloc]; omega)).trans (F0.out 0); have g1 := ((bcell hb1).2 w.heap.size 1 (by rw [World.size_alloc]; omega)).trans (F0.out 1); have B1 := Lib.hid (HB.out.trans (hb1.mono HB.out.size)); have hl1 : w.heap.size < w1.heap.size := World.block_lt_of_cell? _ _ p0; clear hb1))
      have B3' := B3.out
      exact bodyPost_ret (v := .tuple #[.agg #[.int .i64 0, .string ⟨#[]⟩], .bool false]) (by simp [results, Tryz.results154, go_sem, *]) rfl ⟨ret_atomb HE2.out HE1.out rfl rfl, (by repeat (first | with_reducible exact Below.refl _ _ | with_reducible assumption | with_reducible refine Below.alloc ?_ ?_ _ | with_reducible refine Below.setCell ?_ ?_ _ | with_reducible refine Below.drew ?_ | with_reducible refine below_drewN ?_ _ | with_reducible refine Below.trans ?_ (Below.mono (by assumption) ?_) | omega | ((repeat (first | rw [World.size_alloc] | rw [size_setCell] | rw [size_drewN] | rw [size_drew])); omega) | exact Nat.le_refl _ | (dsimp only; omega) | (simp [World.setCell]; omega)))⟩
    · rw [h2] at E1 E2
      have HE1 := Lib.hid E1; have HE2 := Lib.hid E2; clear E1 E2
      have h3 : ((Pl.fmtA a x).toList != s.toList) = false := by rw [bne, h2]; rfl
      go_enter Tryz.func154, Tryz.ntmps154
      go_wp2_with (first
        | (go_at_call 142; (with_reducible refine (l5Format_any _ _ _ hx2).mono ?_); rintro e w3 ⟨rfl, hb3⟩; have q0' := keepcT hb3 q0; have q1' := keepcT hb3 q1; have r0' := ((bcell hb3).2 w.heap.size 0 hl2).trans r0; have r1' := ((bcell hb3).2 w.heap.size 1 hl2).trans r1; have d0' := keepcT hb3 d0; have d1' := keepcT hb3 d1; have B3 := Lib.hid (B2.out.trans (hb3.mono B2.out.size)); have hl3 : w.heap.size < w3.heap.size := World.block_lt_of_cell? _ _ q0'; clear hb3 q0 q1 r0 r1 d0 d1)
        | (go_at_call 126; (with_reducible refine (l5Good_any _ _ _ hx1).mono ?_); rintro e w2 ⟨he, hb2⟩; rw [h1] at he; subst he; have q0 := keepcT hb2 (keepcT (Joins.below_alloc1 w1 _) p0); have q1 := keepcT hb2 (keepcT (Joins.below_alloc1 w1 _) p1); have r0 : w2.frozen? ⟨w.heap.size, 0, none⟩ = false := ((bcell hb2).2 w.heap.size 0 (by rw [World.size_alloc]; omega)).trans (((bcell (Joins.below_alloc1 w1 _)).2 w.heap.size 0 hl1).trans g0); have r1 : w2.frozen? ⟨w.heap.size, 1, none⟩ = false := ((bcell hb2).2 w.heap.size 1 (by rw [World.size_alloc]; omega)).trans (((bcell (Joins.below_alloc1 w1 _)).2 w.heap.size 1 hl1).trans g1); have d0 : w2.cell? ⟨w1.heap.size, 0, none⟩ = some (.int .i64 a) := keepcT hb2 (by simp [go_sem]); have d1 : w2.cell? ⟨w1.heap.size, 1, none⟩ = some (.string x) := keepcT hb2 (by simp [go_sem]); have B2 := Lib.hid ((B1.out.trans ((Joins.below_alloc1 w1 _).mono B1.out.size)).trans (hb2.mono (Nat.le_trans B1.out.size (Joins.below_alloc1 w1 _).size))); have hl2 : w.heap.size < w2.heap.size := World.block_lt_of_cell? _ _ q0; clear hb2 p0 p1 g0 g1)
        | (go_at_call 173; (with_reducible refine (HK.out _).mono ?_); rintro e w1 ⟨rfl, hb1⟩; have p0 := keepcT hb1 C0.out; have p1 := keepcT hb1 C1.out; have g0 := ((bcell hb1).2 w.heap.size 0 (by rw [World.size_alloc]; omega)).trans (F0.out 0); have g1 := ((bcell hb1).2 w.heap.size 1 (by rw [World.size_alloc]; omega)).trans (F0.out 1); have B1 := Lib.hid (HB.out.trans (hb1.mono HB.out.size)); have hl1 : w.heap.size < w1.heap.size := World.block_lt_of_cell? _ _ p0; clear hb1))
      have B3' := B3.out
      exact bodyPost_ret (v := .tuple #[.agg #[.int .i64 a, .string x], .bool true]) (by simp [results, Tryz.results154, go_sem, *]) rfl ⟨ret_atomb HE2.out HE1.out rfl rfl, (by repeat (first | with_reducible exact Below.refl _ _ | with_reducible assumption | with_reducible refine Below.alloc ?_ ?_ _ | with_reducible refine Below.setCell ?_ ?_ _ | with_reducible refine Below.drew ?_ | with_reducible refine below_drewN ?_ _ | with_reducible refine Below.trans ?_ (Below.mono (by assumption) ?_) | omega | ((repeat (first | rw [World.size_alloc] | rw [size_setCell] | rw [size_drewN] | rw [size_drew])); omega) | exact Nat.le_refl _ | (dsimp only; omega) | (simp [World.setCell]; omega)))⟩

end Go.Proofs.YtdidgaibgkdjoaaGreatDoor

namespace Go.Proofs.YtdidgaibgkdjoaaGreatDoor
open Go.RowKit

theorem Pl.trimW_size (s : ByteArray) : (Pl.trimW s).size ≤ s.size := by
  have h1 : ∀ l cs : List UInt8, (Lib.trimLeftS l cs).length ≤ l.length := fun l cs => (List.dropWhile_sublist _).length_le
  have h2 : ∀ l cs : List UInt8, (Lib.trimRightS l cs).length ≤ l.length := fun l cs => by
    unfold Lib.trimRightS
    rw [List.length_reverse]
    have := (List.dropWhile_sublist (p := (cs.contains ·)) (l := l.reverse)).length_le
    rwa [List.length_reverse] at this
  have h3 : (Pl.trimW s).size = (Lib.trimS s.data.toList [123, 125, 94, 38]).length := by unfold Pl.trimW; exact List.size_toArray
  rw [h3, Pl.ba_size]
  exact Nat.le_trans (h1 _ _) (h2 _ _)
theorem trim_any (s : ByteArray) (w : World) (hs : s.size ≤ 1048576) :
    Calls Tryz.prog 175 #[.string s, .string ⟨#[123, 125, 94, 38]⟩] w fun e w' => e = .returned (.string (Pl.trimW s)) ∧ Below w.heap.size w w' :=
  Any.strings_Trim_laid Tryz.lays160 (by kernel_rfl) s ⟨#[123, 125, 94, 38]⟩ w (by omega) (by decide) (ascii_of_all (by decide))

/-- an atom's block as it was made -/
def FreshA (w : World) (B : Nat) : Prop := w.cell? ⟨B, 0, none⟩ = some (.int .i64 0) ∧ w.cell? ⟨B, 1, none⟩ = some (.string ⟨#[]⟩) ∧ ∀ i, w.frozen? ⟨B, i, none⟩ = false
theorem FreshA.made (w : World) (T : TypeId) : FreshA (w.alloc (.cells #[.int .i64 0, .string ⟨#[]⟩] T)) w.heap.size := by
  refine ⟨by simp [go_sem], by simp [go_sem], fun i => by simp [go_sem]⟩
theorem FreshA.keep {w w' : World} {B : Nat} (h : FreshA w B) (hb : Below w.heap.size w w') : FreshA w' B :=
  ⟨keepcT hb h.1, keepcT hb h.2.1, fun i => ((bcell hb).2 B i (World.block_lt_of_cell? _ _ h.1)).trans (h.2.2 i)⟩
/-- none of the first kinds fits -/
def NoHit (s t : ByteArray) (k : Nat) : Prop := ∀ j : Nat, 1 ≤ j → j < k → Pl.hit s j t = false ∧ Pl.hit s j ⟨#[]⟩ = false
theorem noHit_next {s t : ByteArray} {k : Nat} (h : NoHit s t k) (h1 : Pl.hit s k t = false) (h2 : Pl.hit s k ⟨#[]⟩ = false) : NoHit s t (k + 1) := by
  intro j hj hk
  by_cases e : j = k
  · subst e; exact ⟨h1, h2⟩
  · exact h j hj (by omega)
theorem hit_no1 {s y : ByteArray} {a : Int} (h : Pl.atomOk a y = false) : Pl.hit s a y = false := by unfold Pl.hit; rw [h]; rfl
theorem hit_no2 {s y : ByteArray} {a : Int} (h : ((Pl.fmtA a y).toList == s.toList) = false) : Pl.hit s a y = false := by unfold Pl.hit; rw [h, Bool.and_false]
theorem hit_of {s y : ByteArray} {a : Int} (h : Pl.atomOk a y = true) (h2 : ((Pl.fmtA a y).toList == s.toList) = true) : Pl.hit s a y = true := by unfold Pl.hit; rw [h, h2]; rfl
theorem below_on3 {w X Y : World} (h : Below w.heap.size w X) (hb : Below X.heap.size X Y) : Below w.heap.size w Y := h.trans (hb.mono h.size)

set_option maxRecDepth 20000 in
set_option maxHeartbeats 3200000 in
theorem ParseAtom_any (s : ByteArray) (w : World) (hs : s.size ≤ 1048576) :
    Calls Tryz.prog 156 #[.string s] w fun e w' => e = .returned (.tuple #[.agg #[.int .i64 (Pl.parseA s).1, .string (Pl.parseA s).2], .bool (Pl.parseOk s)]) ∧ Below w.heap.size w w' := by
  have HF0 := Lib.hid (FreshA.made w 161)
  have HB0 := Lib.hid (Joins.below_alloc1 w (.cells #[.int .i64 0, .string ⟨#[]⟩] 161))
  have HT := Lib.hid (fun W => trim_any s W hs)
  have ht := Nat.le_trans (Pl.trimW_size s) hs
  have HN0 := Lib.hid (fun h => Pl.parse_no (s := s) h)
  generalize Pl.trimW s = t at HT ht HN0
  by_cases hz : 24 < s.size
  · have E := Lib.hid (Pl.parse_long hz)
    have E2 := Lib.hid (show Pl.parseA s = (0, ⟨#[]⟩) by unfold Pl.parseA; rw [E.out]; rfl)
    go_enter Tryz.func156, Tryz.ntmps156
    go_wp2_with (go_at_call 175; (with_reducible refine (HT.out _).mono ?_); rintro e w1 ⟨rfl, hb1⟩; obtain ⟨q0, q1, q2⟩ := HF0.out.keep hb1; have q20 := q2 0; have q21 := q2 1; clear q2; have B1 := below_on3 HB0.out hb1; clear hb1)
    exact bodyPost_ret (v := .tuple #[.agg #[.int .i64 0, .string ⟨#[]⟩], .bool false]) (by simp [results, Tryz.results156, go_sem, *]) rfl ⟨ret_atomb E2.out E.out rfl rfl, (by repeat (first | with_reducible exact Below.refl _ _ | with_reducible assumption | with_reducible refine Below.alloc ?_ ?_ _ | with_reducible refine Below.setCell ?_ ?_ _ | with_reducible refine Below.drew ?_ | with_reducible refine below_drewN ?_ _ | with_reducible refine Below.trans ?_ (Below.mono (by assumption) ?_) | omega | ((repeat (first | rw [World.size_alloc] | rw [size_setCell] | rw [size_drewN] | rw [size_drew])); omega) | exact Nat.le_refl _ | (dsimp only; omega) | (simp [World.setCell]; omega)))⟩
  go_enter Tryz.func156, Tryz.ntmps156
  go_wp2_with (go_at_call 175; (with_reducible refine (HT.out _).mono ?_); rintro e w1 ⟨rfl, hb1⟩; have HF1 := Lib.hid (HF0.out.keep hb1); have HB1 := Lib.hid (below_on3 HB0.out hb1); clear hb1)
  go_loopw [5] (fun i wr => ∃ k : Nat, 1 ≤ k ∧ k ≤ 11 ∧ i = .int .i64 k ∧ Hid (NoHit s t k) ∧ FreshA wr w.heap.size ∧ Below w.heap.size w wr) (fun i _ => 11 - (intOf i).toNat)
  case atStart => exact ⟨1, by omega, by omega, rfl, Lib.hid (fun j h1 h2 => by omega), HF1.out, HB1.out⟩
  case round =>
    obtain ⟨k, hk1, hk2, rfl, HNo, hf, hb⟩ := hrel
    obtain ⟨wo, rfl⟩ : ∃ wo : World, wo = wr := ⟨_, rfl⟩
    have HF := Lib.hid (hf.keep (Joins.below_alloc1 wo (.cells #[.int .i64 (k : Int), .string t, .int .i64 (k : Int), .string ⟨#[]⟩] 161)))
    have HB := Lib.hid hb
    have hlo := World.block_lt_of_cell? _ _ hf.1
    have HFo := Lib.hid hf
    clear hf hb HF1 HB1 HF0 HB0 HT
    by_cases hlt : k < 11
    · have hki : (k : Int) ≤ 10 := by omega
      go_wp2
      go_loopw [27] (fun i wi => ∃ j : Nat, j ≤ 2 ∧ i = .int .i64 j ∧ Hid (1 ≤ j → Pl.hit s k t = false) ∧ Hid (2 ≤ j → Pl.hit s k ⟨#[]⟩ = false) ∧ Below (wo.heap.size + 1) (wo.alloc (.cells #[.int .i64 (k : Int), .string t, .int .i64 (k : Int), .string ⟨#[]⟩] 161)) wi) (fun i _ => 2 - (intOf i).toNat)
      case atStart => exact ⟨0, by omega, rfl, Lib.hid (by omega), Lib.hid (by omega), Below.refl _ _⟩
      case round =>
        obtain ⟨j, hj, rfl, HX, HY, hbi⟩ := hrel
        obtain ⟨wi, rfl⟩ : ∃ wi : World, wi = wr := ⟨_, rfl⟩
        have HI := Lib.hid (show Below (wo.alloc (.cells #[.int .i64 (k : Int), .string t, .int .i64 (k : Int), .string ⟨#[]⟩] 161)).heap.size _ wi by rw [World.size_alloc]; exact hbi)
        clear hbi
        by_cases hlt2 : j < 2
        · rcases (show j = 0 ∨ j = 1 by omega) with rfl | rfl
          · have c1 : wi.cell? ⟨wo.heap.size, 0, none⟩ = some (.int .i64 (k : Int)) := keepcT HI.out (by simp [go_sem])
            have c2 : wi.cell? ⟨wo.heap.size, 1, none⟩ = some (.string t) := keepcT HI.out (by simp [go_sem])
            cases h1 : Pl.atomOk k t
            · have HN := Lib.hid (hit_no1 (s := s) h1)
              go_wp2_with (go_at_call 176; (with_reducible refine (FormatAtom_no _ _ _ (by first | exact ht | decide) h1).mono ?_); rintro e w2 ⟨rfl, hb2⟩; have HB2 := Lib.hid (below_on3 (below_on3 HI.out (Joins.below_alloc1 wi _)) hb2); clear hb2)
              go_roundw
              case rel => exact ⟨1, by omega, rfl, Lib.hid (fun _ => HN.out), Lib.hid (by omega), by have h := HB2.out; rwa [World.size_alloc] at h⟩
              case measure => simp [intOf]
            · cases h2 : ((Pl.fmtA k t).toList == s.toList)
              · have HN := Lib.hid (hit_no2 (a := (k : Int)) (y := t) (s := s) h2)
                go_wp2_with (go_at_call 176; (with_reducible refine (FormatAtom_yes _ _ _ (by first | exact ht | decide) h1).mono ?_); rintro e w2 ⟨rfl, hb2⟩; have HB2 := Lib.hid (below_on3 (below_on3 HI.out (Joins.below_alloc1 wi _)) hb2); clear hb2)
                go_roundw
                case rel => exact ⟨1, by omega, rfl, Lib.hid (fun _ => HN.out), Lib.hid (by omega), by have h := HB2.out; rwa [World.size_alloc] at h⟩
                case measure => simp [intOf]
              · obtain ⟨hp1, hp2⟩ := Pl.hit_parse (hit_of (a := (k : Int)) h1 h2)
                have HP1 := Lib.hid hp1; have HP2 := Lib.hid hp2
                clear hp1 hp2
                go_wp2_with (go_at_call 176; (with_reducible refine (FormatAtom_yes _ _ _ (by first | exact ht | decide) h1).mono ?_); rintro e w2 ⟨rfl, hb2⟩; have d0 : w2.cell? ⟨wi.heap.size, 0, none⟩ = some (.int .i64 (k : Int)) := keepcT hb2 (by simp [go_sem]); have d1 : w2.cell? ⟨wi.heap.size, 1, none⟩ = some (.string t) := keepcT hb2 (by simp [go_sem]); have HB2 := Lib.hid (below_on3 (below_on3 HI.out (Joins.below_alloc1 wi _)) hb2); clear hb2; obtain ⟨q0, q1, q2⟩ := HF.out.keep HB2.out; have q20 := q2 0; have q21 := q2 1; clear q2)
                have B9 := below_on3 HB.out (below_on3 (Joins.below_alloc1 wo _) HB2.out)
                have B8 := Nat.lt_of_lt_of_le hlo (Nat.le_trans (Joins.below_alloc1 wo _).size HB2.out.size)
                exact bodyPost_ret (v := .tuple #[.agg #[.int .i64 (k : Int), .string t], .bool true]) (by simp [results, Tryz.results156, go_sem, *]) rfl ⟨ret_atomb HP2.out HP1.out rfl rfl, (by repeat (first | with_reducible exact Below.refl _ _ | with_reducible assumption | with_reducible refine Below.alloc ?_ ?_ _ | with_reducible refine Below.setCell ?_ ?_ _ | with_reducible refine Below.drew ?_ | with_reducible refine below_drewN ?_ _ | with_reducible refine Below.trans ?_ (Below.mono (by assumption) ?_) | omega | ((repeat (first | rw [World.size_alloc] | rw [size_setCell] | rw [size_drewN] | rw [size_drew])); omega) | exact Nat.le_refl _ | (dsimp only; omega) | (simp [World.setCell]; omega)))⟩
          · have c1 : wi.cell? ⟨wo.heap.size, 2, none⟩ = some (.int .i64 (k : Int)) := keepcT HI.out (by simp [go_sem])
            have c2 : wi.cell? ⟨wo.heap.size, 3, none⟩ = some (.string (⟨#[]⟩ : ByteArray)) := keepcT HI.out (by simp [go_sem])
            cases h1 : Pl.atomOk k (⟨#[]⟩ : ByteArray)
            · have HN := Lib.hid (hit_no1 (s := s) h1)
              go_wp2_with (go_at_call 176; (with_reducible refine (FormatAtom_no _ _ _ (by first | exact ht | decide) h1).mono ?_); rintro e w2 ⟨rfl, hb2⟩; have HB2 := Lib.hid (below_on3 (below_on3 HI.out (Joins.below_alloc1 wi _)) hb2); clear hb2)
              go_roundw
              case rel => exact ⟨2, by omega, rfl, Lib.hid (fun _ => HX.out (Nat.le_refl _)), Lib.hid (fun _ => HN.out), by have h := HB2.out; rwa [World.size_alloc] at h⟩
              case measure => simp [intOf]
            · cases h2 : ((Pl.fmtA k (⟨#[]⟩ : ByteArray)).toList == s.toList)
              · have HN := Lib.hid (hit_no2 (a := (k : Int)) (y := (⟨#[]⟩ : ByteArray)) (s := s) h2)
                go_wp2_with (go_at_call 176; (with_reducible refine (FormatAtom_yes _ _ _ (by first | exact ht | decide) h1).mono ?_); rintro e w2 ⟨rfl, hb2⟩; have HB2 := Lib.hid (below_on3 (below_on3 HI.out (Joins.below_alloc1 wi _)) hb2); clear hb2)
                go_roundw
                case rel => exact ⟨2, by omega, rfl, Lib.hid (fun _ => HX.out (Nat.le_refl _)), Lib.hid (fun _ => HN.out), by have h := HB2.out; rwa [World.size_alloc] at h⟩
                case measure => simp [intOf]
              · obtain ⟨hp1, hp2⟩ := Pl.hit_parse (hit_of (a := (k : Int)) h1 h2)
                have HP1 := Lib.hid hp1; have HP2 := Lib.hid hp2
                clear hp1 hp2
                go_wp2_with (go_at_call 176; (with_reducible refine (FormatAtom_yes _ _ _ (by first | exact ht | decide) h1).mono ?_); rintro e w2 ⟨rfl, hb2⟩; have d0 : w2.cell? ⟨wi.heap.size, 0, none⟩ = some (.int .i64 (k : Int)) := keepcT hb2 (by simp [go_sem]); have d1 : w2.cell? ⟨wi.heap.size, 1, none⟩ = some (.string (⟨#[]⟩ : ByteArray)) := keepcT hb2 (by simp [go_sem]); have HB2 := Lib.hid (below_on3 (below_on3 HI.out (Joins.below_alloc1 wi _)) hb2); clear hb2; obtain ⟨q0, q1, q2⟩ := HF.out.keep HB2.out; have q20 := q2 0; have q21 := q2 1; clear q2)
                have B9 := below_on3 HB.out (below_on3 (Joins.below_alloc1 wo _) HB2.out)
                have B8 := Nat.lt_of_lt_of_le hlo (Nat.le_trans (Joins.below_alloc1 wo _).size HB2.out.size)
                exact bodyPost_ret (v := .tuple #[.agg #[.int .i64 (k : Int), .string (⟨#[]⟩ : ByteArray)], .bool true]) (by simp [results, Tryz.results156, go_sem, *]) rfl ⟨ret_atomb HP2.out HP1.out rfl rfl, (by repeat (first | with_reducible exact Below.refl _ _ | with_reducible assumption | with_reducible refine Below.alloc ?_ ?_ _ | with_reducible refine Below.setCell ?_ ?_ _ | with_reducible refine Below.drew ?_ | with_reducible refine below_drewN ?_ _ | with_reducible refine Below.trans ?_ (Below.mono (by assumption) ?_) | omega | ((repeat (first | rw [World.size_alloc] | rw [size_setCell] | rw [size_drewN] | rw [size_drew])); omega) | exact Nat.le_refl _ | (dsimp only; omega) | (simp [World.setCell]; omega)))⟩
        · obtain rfl : j = 2 := by omega
          have HQ := Lib.hid (noHit_next HNo.out (HX.out (by omega)) (HY.out (by omega)))
          go_wp2
          go_roundw
          case rel => exact ⟨k + 1, by omega, by omega, by go_num, HQ, HF.out.keep HI.out, below_on3 HB.out (below_on3 (Joins.below_alloc1 wo _) HI.out)⟩
          case measure => simp [intOf]; omega
    · obtain rfl : k = 11 := by omega
      have E := Lib.hid (HN0.out (fun j h1 h2 => HNo.out j h1 (by omega)))
      have E2 := Lib.hid (show Pl.parseA s = (0, ⟨#[]⟩) by unfold Pl.parseA; rw [E.out]; rfl)
      obtain ⟨q0, q1, q2⟩ := HFo.out
      have q20 := q2 0; have q21 := q2 1
      clear q2
      have B9 := HB.out
      go_wp2
      exact bodyPost_ret (v := .tuple #[.agg #[.int .i64 0, .string ⟨#[]⟩], .bool false]) (by simp [results, Tryz.results156, go_sem, *]) rfl ⟨ret_atomb E2.out E.out rfl rfl, (by repeat (first | with_reducible exact Below.refl _ _ | with_reducible assumption | with_reducible refine Below.alloc ?_ ?_ _ | with_reducible refine Below.setCell ?_ ?_ _ | with_reducible refine Below.drew ?_ | with_reducible refine below_drewN ?_ _ | with_reducible refine Below.trans ?_ (Below.mono (by assumption) ?_) | omega | ((repeat (first | rw [World.size_alloc] | rw [size_setCell] | rw [size_drewN] | rw [size_drew])); omega) | exact Nat.le_refl _ | (dsimp only; omega) | (simp [World.setCell]; omega)))⟩

end Go.Proofs.YtdidgaibgkdjoaaGreatDoor

namespace Go.Proofs.YtdidgaibgkdjoaaGreatDoor
open Go.RowKit

theorem Tryz.infoAtm : (Tryz.prog.info? 161).map (fun i => (i.zero, i.size, i.bytes)) = some (some (.agg #[.int .i64 0, .string ⟨#[]⟩]), 2, 24) := by kernel_rfl
theorem Tryz.infoStx : (Tryz.prog.info? 9).map (fun i => (i.zero, i.size, i.bytes)) = some (some (.string ⟨#[]⟩), 1, 16) := by kernel_rfl
theorem folds_snocA (l : List (Int × ByteArray)) (p : Int × ByteArray) : folds (l ++ [p]) = folds l ++ [.int .i64 p.1, .string p.2] := by
  induction l with
  | nil => rfl
  | cons q r ih => simp only [List.cons_append, folds, ih]
theorem strs_snocA (l : List ByteArray) (x : ByteArray) : strs (l ++ [x]) = strs l ++ [.string x] := by simp [strs]
theorem app_atm {ops : Array Oper} {rest : List Oper} {o : Oper} {a : Act} {w : World} {Q : Exit → Act → World → Prop} (hgd : o.guard = none) (s x : Operand)
    (ho : o.op = .call { callee := .builtin .append, args := #[s, x], argTypes := #[127, 127] })
    (base : Nat) (v : Value) (n : Nat) (xs : List Value) (hs : a.eval s = v) (hown : w.ownsRow base 161 2 v n xs)
    (ad : Addr) (c : Nat) (qa : Int) (qt : ByteArray) (hx : a.eval x = .slice (some ad) 1 c) (hnews : ∀ j u, [Value.int .i64 qa, .string qt][j]? = some u → w.cell? (ad.add j) = some u)
    (hnm : n + 1 ≤ 4194304) (hbase : base ≤ w.heap.size)
    (h : ∀ v' w', w'.ownsRow base 161 2 v' (n + 1) (xs ++ [Value.int .i64 qa, .string qt]) → w.grownBy w' v.ownBlock → wpList Tryz.prog ops Q rest (a.put o.dst v') w') : wpList Tryz.prog ops Q (o :: rest) a w := by
  obtain ⟨i0, hi, hz0, hz1, hz2⟩ := info_parts Tryz.infoAtm
  exact wpList_append_own w hgd s x 127 ho base 161 i0 (.agg #[.int .i64 0, .string ⟨#[]⟩]) 2 24 Tryz.underlying127 hi hz0 hz1 hz2 rfl (by decide) v n xs hs hown ad 1 c [Value.int .i64 qa, .string qt] hx rfl hnews
    (by intro u hu; simp only [List.mem_cons, List.not_mem_nil, or_false] at hu; rcases hu with rfl | rfl <;> rfl)
    (by unfold maxLen; omega) (by omega) hbase (fun v' w' h1 h2 _ => h v' w' h1 h2)
theorem app_stx {ops : Array Oper} {rest : List Oper} {o : Oper} {a : Act} {w : World} {Q : Exit → Act → World → Prop} (hgd : o.guard = none) (s x : Operand)
    (ho : o.op = .call { callee := .builtin .append, args := #[s, x], argTypes := #[124, 124] })
    (base : Nat) (v : Value) (n : Nat) (xs : List Value) (hs : a.eval s = v) (hown : w.ownsRow base 9 1 v n xs)
    (ad : Addr) (c : Nat) (q : ByteArray) (hx : a.eval x = .slice (some ad) 1 c) (hnews : ∀ j u, [Value.string q][j]? = some u → w.cell? (ad.add j) = some u)
    (hnm : n + 1 ≤ 4194304) (hbase : base ≤ w.heap.size)
    (h : ∀ v' w', w'.ownsRow base 9 1 v' (n + 1) (xs ++ [Value.string q]) → w.grownBy w' v.ownBlock → wpList Tryz.prog ops Q rest (a.put o.dst v') w') : wpList Tryz.prog ops Q (o :: rest) a w := by
  obtain ⟨i0, hi, hz0, hz1, hz2⟩ := info_parts Tryz.infoStx
  exact wpList_append_own w hgd s x 124 ho base 9 i0 (.string ⟨#[]⟩) 1 16 Tryz.underlying124 hi hz0 hz1 hz2 rfl (by decide) v n xs hs hown ad 1 c [Value.string q] hx rfl hnews
    (by intro u hu; simp only [List.mem_cons, List.not_mem_nil, or_false] at hu; rcases hu with rfl <;> rfl)
    (by unfold maxLen; omega) (by omega) hbase (fun v' w' h1 h2 _ => h v' w' h1 h2)
theorem atm_news (w : World) (qa : Int) (qt : ByteArray) (E : TypeId) (b : Nat) (hb : b = w.heap.size) : ∀ j u, [Value.int .i64 qa, .string qt][j]? = some u → (w.alloc (.cells #[.int .i64 qa, .string qt] E)).cell? ((⟨b, 0, none⟩ : Addr).add j) = some u := by
  subst hb
  intro j u hj
  rw [Addr.add_lit, Nat.zero_add, World.cell?_alloc_mark]
  simpa using hj
theorem stx_news (w : World) (q : ByteArray) (E : TypeId) (b : Nat) (hb : b = w.heap.size) : ∀ j u, [Value.string q][j]? = some u → (w.alloc (.cells #[.string q] E)).cell? ((⟨b, 0, none⟩ : Addr).add j) = some u := by
  subst hb
  intro j u hj
  rw [Addr.add_lit, Nat.zero_add, World.cell?_alloc_mark]
  simpa using hj

/-- a text cut at each instance of a byte -/
def Cut1 (B : Nat) (w : World) (b : UInt8) (s : ByteArray) (e : Ending) (w' : World) : Prop :=
  ∃ v, e = .returned v ∧ w'.ownsRow B 9 1 v (Pl.parts b s).length (strs (Pl.parts b s)) ∧ Below B w w'

set_option maxRecDepth 20000 in
set_option maxHeartbeats 1600000 in
theorem l1Split_any (s : ByteArray) (b : UInt8) (w : World) (hs : s.size ≤ 1048576) :
    Calls Tryz.prog 153 #[.string s, .int .u8 (b.toNat : Int)] w (Cut1 w.heap.size w b s) := by
  have HO0 := Lib.hid (World.ownsRow_made (base := w.heap.size) (e := 9) (size := 1) w #[] 0 (Nat.le_refl _) (by unfold maxLen; omega) rfl)
  have HB0 := Lib.hid (Joins.below_alloc1 w (.cells #[] 9))
  have hbb : (b.toNat : Int) < 256 := by have := b.toNat_lt; omega
  go_enter Tryz.func153, Tryz.ntmps153
  go_wp2
  go_loopw [5, 6, 7] (fun v f i wr => ∃ (k g : Nat) (l : List ByteArray), k ≤ s.size ∧ i = .int .i64 k ∧ f = .int .i64 g ∧ g ≤ k ∧ l.length ≤ k ∧ Hid (Pl.CutInv b s k g l) ∧ wr.ownsRow w.heap.size 9 1 v l.length (strs l) ∧ Below w.heap.size w wr) (fun _ _ i _ => s.size - (intOf i).toNat)
  case atStart => exact ⟨0, 0, [], Nat.zero_le _, rfl, rfl, Nat.le_refl _, Nat.le_refl _, Lib.hid (Pl.cut_start b s), HO0.out, HB0.out⟩
  clear HO0 HB0
  case round =>
    obtain ⟨k, g, l, hk, rfl, rfl, hg, hl, HC, hown, hb⟩ := hrel
    have HO := Lib.hid hown; have HB := Lib.hid hb; clear hown hb
    have hgi : (g : Int) ≤ (k : Int) := by omega
    have hg0 : (0 : Int) ≤ (g : Int) := by omega
    by_cases hlt : k < s.size
    · have hbd : (s[k].toNat : Int) < 256 := by have := s[k].toNat_lt; omega
      have hki : (k : Int) ≤ (s.size : Int) := by omega
      by_cases hq : s[k] = b
      · have HN := Lib.hid (Pl.cut_one HC.out hlt hq)
        have t1 : ((s[k].toNat : Int) == (b.toNat : Int)) = true := by rw [hq]; simp
        have t2 : (s[k].toNat : Int) = (b.toNat : Int) := by rw [hq]
        have T2 := Lib.hid t2
        clear t2 hq HC
        go_wp2_with (at_builtin; refine app_stx rfl _ _ rfl w.heap.size _ l.length (strs l) rfl (HO.out.alloc _) ⟨_, 0, none⟩ 1 (s.extract g k) rfl (stx_news _ _ _ _ rfl) (by omega) (by have := HB.out.size; rw [World.size_alloc]; omega) ?_; intro v2 w2 hown2 hg2)
        have HB2 := Lib.hid ((HB.out.alloc HB.out.size (.cells #[.string (s.extract g k)] 9)).grown hg2 (by have := HB.out.size; rw [World.size_alloc]; omega) (fun j hj => (HO.out.lt j hj).1))
        have HO2 := Lib.hid hown2
        clear HB HO hown2 hg2
        go_roundw
        case rel => exact ⟨k + 1, k + 1, l ++ [s.extract g k], by omega, by go_num, by go_num, by omega, by rw [List.length_append]; exact Nat.succ_le_succ hl, HN, by have h := HO2.out; rw [← strs_snocA] at h; rw [List.length_append]; exact h, HB2.out⟩
        case measure => simp [intOf]; omega
      · have HN := Lib.hid (Pl.cut_none HC.out hlt hq)
        have t0 : ¬ (s[k].toNat : Int) = (b.toNat : Int) := fun h => hq (UInt8.toNat_inj.1 (by omega))
        have t1 : ((s[k].toNat : Int) == (b.toNat : Int)) = false := beq_eq_false_iff_ne.2 t0
        clear hq HC
        go_wp2
        go_roundw
        case rel => exact ⟨k + 1, g, l, by omega, by go_num, rfl, by omega, by omega, HN, HO.out, HB.out⟩
        case measure => simp [intOf]; omega
    · obtain rfl : k = s.size := by omega
      have HE := Lib.hid (Pl.cut_end HC.out)
      go_wp2_with (at_builtin; refine app_stx rfl _ _ rfl w.heap.size _ l.length (strs l) rfl (HO.out.alloc _) ⟨_, 0, none⟩ 1 (s.extract g s.size) rfl (stx_news _ _ _ _ rfl) (by omega) (by have := HB.out.size; rw [World.size_alloc]; omega) ?_; intro v2 w2 hown2 hg2)
      have HB2 := Lib.hid ((HB.out.alloc HB.out.size (.cells #[.string (s.extract g s.size)] 9)).grown hg2 (by have := HB.out.size; rw [World.size_alloc]; omega) (fun j hj => (HO.out.lt j hj).1))
      have HO2 := Lib.hid hown2
      clear HB HO hown2 hg2
      go_ret
      refine ⟨_, rfl, ?_, HB2.out⟩
      have h := HO2.out
      rw [← strs_snocA, HE.out, show l.length + 1 = (l ++ [s.extract g s.size]).length by rw [List.length_append]; rfl, HE.out] at h
      exact h

/-- a whole block of texts -/
def Blk (w : World) (b : Nat) (l : List ByteArray) : Prop := w.heap[b]? = some (.cells (strs l).toArray 9)
theorem Blk.lt {w : World} {b : Nat} {l : List ByteArray} (h : Blk w b l) : b < w.heap.size := by
  rcases Nat.lt_or_ge b w.heap.size with h' | h'
  · exact h'
  · unfold Blk at h; rw [Array.getElem?_eq_none h'] at h; cases h
theorem Blk.keep {w w' : World} {b : Nat} {l : List ByteArray} (h : Blk w b l) (hb : Below w.heap.size w w') : Blk w' b l := by
  have hl := h.lt
  unfold Blk at h ⊢
  rw [hb.block b hl]; exact h
theorem Blk.grown {w w' : World} {b base : Nat} {v : Value} {n : Nat} {xs : List Value} {l : List ByteArray} (h : Blk w b l) (ho : w.ownsRow base 161 2 v n xs) (hg : w.grownBy w' v.ownBlock) : Blk w' b l := by
  have hl := h.lt
  unfold Blk at h ⊢
  have hne : v.ownBlock ≠ some b := by
    rcases ho.2 with ⟨rfl, _⟩ | ⟨g, cap, cur, rfl, h2, hg, _⟩
    · simp [Value.ownBlock]
    · intro e
      simp only [Value.ownBlock, Option.some.injEq] at e
      subst e
      rw [hg] at h
      simp at h
  rw [hg.block b hl (fun e => hne e.symm)]
  exact h
theorem Blk.cell {w : World} {b : Nat} {l : List ByteArray} (h : Blk w b l) (k : Nat) (hk : k < l.length) : w.cell? ⟨b, k, none⟩ = some (.string l[k]) := by
  unfold Blk at h
  rw [cell_of_row w b k _ _ (0, 0) h, List.getElem?_toArray]
  exact strs_at l k hk
theorem split_any (s : ByteArray) (b : UInt8) (w : World) (hs : s.size ≤ 1048576) (hm : ∃ m, w.cell? ⟨0, 0, none⟩ = some (.int .i64 m)) :
    Calls Tryz.prog 155 #[.string s, .string ⟨#[b]⟩] w fun e w' => e = .returned (.slice (some ⟨w.heap.size, 0, none⟩) (Pl.parts b s).length (Pl.parts b s).length) ∧ Blk w' w.heap.size (Pl.parts b s) ∧ Below w.heap.size w w' := by
  obtain ⟨m, hm⟩ := hm
  refine (Tryz.strings_Split s ⟨#[b]⟩ m w (by omega) hm (show 1 ≤ 1 from Nat.le_refl _)).mono ?_
  rintro e w' ⟨rfl, rfl⟩
  rw [Pl.lib_parts, ← Pl.parts_count]
  exact ⟨rfl, by unfold Blk World.alloc; simp [strs], Joins.below_alloc1 _ _⟩

/-- a translation read: whether, and its atoms -/
def Read1 (B : Nat) (w : World) (s : ByteArray) (e : Ending) (w' : World) : Prop :=
  ∃ v, e = .returned (.tuple #[v, .bool (Pl.transOk s)]) ∧ w'.ownsRow B 161 2 v (Pl.transOut s).length (folds (Pl.transOut s)) ∧ Below B w w'
theorem parts_sz (b : UInt8) (s : ByteArray) (k : Nat) (h : k < (Pl.parts b s).length) : ((Pl.parts b s)[k]).size ≤ s.size := by
  have h1 := Pl.sizes_parts b s
  have h2 := (Pl.parts_len b s).1
  have h3 : ∀ (l : List ByteArray) (k : Nat) (h : k < l.length), (l[k]).size + (l.length - 1) ≤ Pl.sizes l + (l.length - 1) := by
    intro l
    induction l with
    | nil => intro k h; simp at h
    | cons x l ih =>
      intro k h
      unfold Pl.sizes
      rw [List.map_cons, List.sum_cons]
      cases k with
      | zero => simp
      | succ k =>
        have := ih k (by simpa using h)
        unfold Pl.sizes at this
        simp only [List.getElem_cons_succ]
        omega
  have := h3 _ k h
  omega
theorem row_formA {w : World} {base size n : Nat} {e : TypeId} {v : Value} {xs : List Value} (h : w.ownsRow base e size v n xs) : ∃ ao co, v = .slice ao n co := by
  rcases Joins.ownsRow_forms h with ⟨h1, h2⟩ | ⟨g, c, h1⟩
  · exact ⟨none, 0, by rw [h1, h2]⟩
  · exact ⟨_, c, h1⟩
theorem all_no {l : List ByteArray} {k : Nat} (h : k < l.length) (hp : Pl.parseOk l[k] = false) : l.all Pl.parseOk = false := by
  rw [List.all_eq_false]
  exact ⟨l[k], List.getElem_mem h, by rw [hp]; decide⟩
theorem all_yes {l : List ByteArray} {k : Nat} (h : k < l.length) (ha : (l.take k).all Pl.parseOk = true) (hp : Pl.parseOk l[k] = true) : (l.take (k + 1)).all Pl.parseOk = true := by
  rw [List.take_add_one, List.getElem?_eq_getElem h, List.all_append, ha]
  simp [hp]
theorem map_next {l : List ByteArray} {k : Nat} (h : k < l.length) : (l.take (k + 1)).map Pl.parseA = (l.take k).map Pl.parseA ++ [Pl.parseA l[k]] := by
  rw [List.take_add_one, List.getElem?_eq_getElem h, List.map_append]
  simp

set_option maxRecDepth 20000 in
set_option maxHeartbeats 3200000 in
theorem ParseTranslation_any (s : ByteArray) (w : World) (hs : s.size ≤ 4194304) (hm : ∃ m, w.cell? ⟨0, 0, none⟩ = some (.int .i64 m)) :
    Calls Tryz.prog 122 #[.string s] w (Read1 w.heap.size w s) := by
  by_cases hz : 60 < s.size
  · have E := Lib.hid (Pl.trans_no1 hz)
    have E2 := Lib.hid (Pl.out_no E.out)
    go_enter Tryz.func122, Tryz.ntmps122
    go_wp2
    go_ret2
    exact ⟨.slice none 0 0, by rw [E.out]; rfl, by rw [E2.out]; exact World.ownsRow_nil _ _ _ _, Below.refl _ _⟩
  have HO0 := Lib.hid (World.ownsRow_made (base := w.heap.size) (e := 161) (size := 2) w #[] 0 (Nat.le_refl _) (by unfold maxLen; omega) rfl)
  have HB0 := Lib.hid (Joins.below_alloc1 w (.cells #[] 161))
  have HS := Lib.hid (fun W h => split_any s 32 W (by omega) h)
  have hm1 : ∃ m, (w.alloc (.cells #[] 161)).cell? ⟨0, 0, none⟩ = some (.int .i64 m) := by obtain ⟨m, hm⟩ := hm; exact ⟨m, keepcT (Joins.below_alloc1 w _) hm⟩
  have HM := Lib.hid hm1
  have hpl := Pl.parts_len 32 s
  have HPS := Lib.hid (parts_sz 32 s)
  clear hm hm1
  go_enter Tryz.func122, Tryz.ntmps122
  go_wp2_with (go_at_call 155; (with_reducible refine (HS.out _ HM.out).mono ?_); rintro e w2 ⟨rfl, hr2, hb2⟩; have HR2 := Lib.hid hr2; have HB2 := Lib.hid (below_on3 HB0.out hb2); have HO2 := Lib.hid (own_keep HO0.out hb2); clear hr2 hb2)
  go_loopw [4, 16] (fun v i wr => ∃ k : Nat, k ≤ (Pl.parts 32 s).length ∧ i = .int .i64 k ∧ Hid (((Pl.parts 32 s).take k).all Pl.parseOk = true) ∧ wr.ownsRow w.heap.size 161 2 v k (folds (((Pl.parts 32 s).take k).map Pl.parseA)) ∧ Below w.heap.size w wr ∧ Blk wr (w.heap.size + 1) (Pl.parts 32 s)) (fun _ i _ => (Pl.parts 32 s).length - (intOf i).toNat)
  case atStart => exact ⟨0, Nat.zero_le _, rfl, Lib.hid rfl, HO2.out, HB2.out, by have h := HR2.out; rw [World.size_alloc] at h; exact h⟩
  clear HO2 HB2 HR2
  case round =>
    obtain ⟨k, hk, rfl, HA, hown, hb, hblk⟩ := hrel
    have HO := Lib.hid hown; have HB := Lib.hid hb; have HK := Lib.hid hblk
    clear hown hb hblk
    by_cases hlt : k < (Pl.parts 32 s).length
    · have c1 := HK.out.cell k hlt
      have hx := HPS.out k hlt
      have hki : (k : Int) < ((Pl.parts 32 s).length : Int) := by omega
      cases hq : Pl.parseOk (Pl.parts 32 s)[k]
      · have E := Lib.hid (Pl.trans_no2 (all_no hlt hq))
        have E2 := Lib.hid (Pl.out_no E.out)
        generalize (Pl.parts 32 s)[k] = x at c1 hx hq
        have HP := Lib.hid (fun W => ParseAtom_any x W (by omega))
        rw [hq] at HP
        clear HA
        go_wp2_with (go_at_call 156; (with_reducible refine (HP.out _).mono ?_); rintro e w3 ⟨rfl, hb3⟩; have HB3 := Lib.hid (below_on3 HB.out hb3); clear hb3)
        go_ret2
        exact ⟨.slice none 0 0, by rw [E.out]; rfl, by rw [E2.out]; exact World.ownsRow_nil _ _ _ _, HB3.out.alloc HB3.out.size _⟩
      · have HN := Lib.hid (all_yes hlt HA.out hq)
        have HX := Lib.hid (map_next hlt)
        generalize (Pl.parts 32 s)[k] = x at c1 hx hq HX
        have HP := Lib.hid (fun W => ParseAtom_any x W (by omega))
        rw [hq] at HP
        obtain ⟨qa, qt, hpa⟩ : ∃ qa qt, Pl.parseA x = (qa, qt) := ⟨_, _, rfl⟩
        rw [hpa] at HP HX
        clear hpa HA
        generalize ((Pl.parts 32 s).take k).map Pl.parseA = l at HO HX
        go_wp2_with (first
          | (at_builtin; refine app_atm rfl _ _ rfl w.heap.size _ k (folds l) rfl ((HO3.out.alloc _).alloc _) ⟨_, 0, none⟩ 1 qa qt rfl (atm_news _ _ _ _ _ (by rw [World.size_alloc])) (by omega) (by have := HB3.out.size; rw [World.size_alloc, World.size_alloc]; omega) ?_; intro v4 w4 hown4 hg4)
          | (go_at_call 156; (with_reducible refine (HP.out _).mono ?_); rintro e w3 ⟨rfl, hb3⟩; have HB3 := Lib.hid (below_on3 HB.out hb3); have HO3 := Lib.hid (own_keep HO.out hb3); have HK3 := Lib.hid (HK.out.keep hb3); clear hb3))
        have hb4 : Below w3.heap.size w3 ((w3.alloc (.cells #[.int .i64 qa, .string qt] 161)).alloc (.cells #[.int .i64 qa, .string qt] 161)) := Joins.below_alloc2 _ _ _
        have ho4 := (HO3.out.alloc (.cells #[.int .i64 qa, .string qt] 161)).alloc (.cells #[.int .i64 qa, .string qt] 161)
        have HB4 := Lib.hid ((below_on3 HB3.out hb4).grown hg4 (Nat.le_trans HB3.out.size hb4.size) (fun j hj => (ho4.lt j hj).1))
        have HK4 := Lib.hid ((HK3.out.keep hb4).grown ho4 hg4)
        have HO4 := Lib.hid hown4
        clear HB HO HK HB3 HO3 HK3 hown4 hg4 hb4 ho4
        go_roundw
        case rel => exact ⟨k + 1, by omega, by go_num, HN, by rw [HX.out, folds_snocA]; exact HO4.out, HB4.out, HK4.out⟩
        case measure => simp [intOf]; omega
    · obtain rfl : k = (Pl.parts 32 s).length := by omega
      have ha := HA.out
      rw [List.take_length] at ha
      rw [List.take_length] at HO
      have E := Lib.hid (Pl.trans_is (by omega) ha)
      clear ha HA
      obtain ⟨ao, co, rfl⟩ := row_formA HO.out
      by_cases h10 : (Pl.parts 32 s).length ≤ 10
      · rw [decide_eq_true h10] at E
        have E2 := Lib.hid (Pl.out_yes E.out)
        go_wp2
        go_ret2
        exact ⟨_, by rw [E.out]; rfl, by rw [E2.out, List.length_map]; exact HO.out, HB.out⟩
      · rw [decide_eq_false h10] at E
        have E2 := Lib.hid (Pl.out_no E.out)
        go_wp2
        go_ret2
        exact ⟨.slice none 0 0, by rw [E.out]; rfl, by rw [E2.out]; exact World.ownsRow_nil _ _ _ _, HB.out⟩

end Go.Proofs.YtdidgaibgkdjoaaGreatDoor

namespace Go.Proofs.YtdidgaibgkdjoaaGreatDoor
open Go.RowKit

set_option maxHeartbeats 400000 in
theorem isTranslation_any (s : ByteArray) (w : World) (hs : s.size ≤ 4194304) (hm : ∃ m, w.cell? ⟨0, 0, none⟩ = some (.int .i64 m)) :
    Calls Tryz.prog 77 #[.string s] w fun e w' => e = .returned (.bool (Pl.transOk s)) ∧ Below w.heap.size w w' := by
  have H := Lib.hid (ParseTranslation_any s w hs hm)
  clear hm
  go_enter Tryz.func77, Tryz.ntmps77
  go_wp2_with (go_at_call 122; (with_reducible refine H.out.mono ?_); rintro e w1 ⟨v, rfl, hown, hb⟩; obtain ⟨ao, co, rfl⟩ := row_formA hown; have HB := Lib.hid hb; clear hown hb)
  go_ret
  exact ⟨rfl, HB.out⟩

theorem Pl.fmtSz_next (l : List (Int × ByteArray)) (k : Nat) (h : k < l.length) : Pl.fmtSz (l.take (k + 1)) = Pl.fmtSz (l.take k) + (Pl.fmtA (l[k]).1 (l[k]).2).size := by
  unfold Pl.fmtSz
  rw [List.take_add_one, List.getElem?_eq_getElem h, List.map_append, List.sum_append]
  simp
theorem Pl.list_no1 {l : List (Int × ByteArray)} (h : Pl.inB l.length 1 10 = false) : Pl.listOk l = false := by unfold Pl.listOk; rw [h]; rfl
theorem Pl.list_no2 {l : List (Int × ByteArray)} {k : Nat} (hk : k < l.length) (h : Pl.atomOk (l[k]).1 (l[k]).2 = false) : Pl.listOk l = false := by
  have : (l.all fun p => Pl.atomOk p.1 p.2) = false := by
    rw [List.all_eq_false]
    exact ⟨l[k], List.getElem_mem hk, by rw [h]; decide⟩
  unfold Pl.listOk; rw [this, Bool.and_false]; rfl
theorem Pl.list_is {l : List (Int × ByteArray)} (h1 : Pl.inB l.length 1 10 = true) (h2 : ((l.take l.length).all fun p => Pl.atomOk p.1 p.2) = true) : Pl.listOk l = decide (((l.length : Int) - 1 + (Pl.fmtSz (l.take l.length) : Int)) ≤ 60) := by
  rw [List.take_length] at h2 ⊢
  unfold Pl.listOk; rw [h1, h2, Bool.true_and, Bool.true_and]
  apply Bool.eq_iff_iff.2
  simp only [decide_eq_true_iff]
  omega
theorem Pl.list_next {l : List (Int × ByteArray)} {k : Nat} (hk : k < l.length) (h : ((l.take k).all fun p => Pl.atomOk p.1 p.2) = true) (h2 : Pl.atomOk (l[k]).1 (l[k]).2 = true) : ((l.take (k + 1)).all fun p => Pl.atomOk p.1 p.2) = true := by
  rw [List.take_add_one, List.getElem?_eq_getElem hk, List.all_append, h]
  simp [h2]

set_option maxRecDepth 20000 in
set_option maxHeartbeats 1600000 in
theorem l5List_any (v : Value) (l : List (Int × ByteArray)) (w : World) (hr : Rows w v l.length 2 (folds l)) (hl : l.length ≤ 1000) (hz : ∀ p ∈ l, p.2.size ≤ 1048576) :
    Calls Tryz.prog 94 #[v] w fun e w' => e = .returned (.bool (Pl.listOk l)) ∧ Below w.heap.size w w' := by
  obtain ⟨a, cap, rfl, _, _, _, _, hcells⟩ := hr
  have HC := Lib.hid hcells; have HZ := Lib.hid hz; clear hcells hz
  cases h1 : Pl.inB l.length 1 10
  · have E := Lib.hid (Pl.list_no1 h1)
    go_enter Tryz.func94, Tryz.ntmps94
    go_wp2_with (go_at_call 117; refine (l1In_any _ _ _ _).mono ?_; rintro e w' ⟨he, rfl⟩; rw [h1] at he; subst he)
    go_ret
    exact ⟨ret_bool E.out.symm, Below.refl _ _⟩
  have hp : 1 ≤ l.length := by simp only [Pl.inB, Bool.and_eq_true, decide_eq_true_iff] at h1; omega
  go_enter Tryz.func94, Tryz.ntmps94
  go_wp2_with (go_at_call 117; refine (l1In_any _ _ _ _).mono ?_; rintro e w' ⟨he, rfl⟩; rw [h1] at he; subst he)
  go_loopw [3, 4] (fun n i wr => ∃ k : Nat, k ≤ l.length ∧ i = .int .i64 k ∧ n = .int .i64 ((l.length : Int) - 1 + (Pl.fmtSz (l.take k) : Int)) ∧ Pl.fmtSz (l.take k) ≤ 24 * k ∧ Hid (((l.take k).all fun p => Pl.atomOk p.1 p.2) = true) ∧ Below w.heap.size w wr) (fun _ i _ => l.length - (intOf i).toNat)
  case atStart => exact ⟨0, Nat.zero_le _, rfl, by simp [Pl.fmtSz], by simp [Pl.fmtSz], Lib.hid rfl, Below.refl _ _⟩
  case round =>
    obtain ⟨k, hk, rfl, rfl, hn, HA, hb⟩ := hrel
    have HB := Lib.hid hb; clear hb
    by_cases hlt : k < l.length
    · obtain ⟨b, off, rfl, c1, c2⟩ := fold_cells (HC.out.keep HB.out) k hlt
      have hx := HZ.out _ (List.getElem_mem hlt)
      have hki : (k : Int) < (l.length : Int) := by omega
      cases hq : Pl.atomOk (l[k]).1 (l[k]).2
      · have E := Lib.hid (Pl.list_no2 hlt hq)
        generalize l[k] = p at c1 c2 hx hq
        obtain ⟨pa, px⟩ := p
        replace hx : px.size ≤ 1048576 := hx
        replace hq : Pl.atomOk pa px = false := hq
        have hx' : px.size ≤ maxLen := by unfold maxLen; omega
        go_wp2_with (go_at_call 126; (with_reducible refine (l5Good_any _ _ _ hx').mono ?_); rintro e w2 ⟨he, hb2⟩; rw [hq] at he; subst he; have HB2 := Lib.hid (below_on3 HB.out hb2); clear hb2)
        go_ret
        exact ⟨ret_bool E.out.symm, HB2.out⟩
      · have HN := Lib.hid (Pl.list_next hlt HA.out hq)
        have HS := Lib.hid (Pl.fmtSz_next l k hlt)
        generalize l[k] = p at c1 c2 hx hq HS
        obtain ⟨pa, px⟩ := p
        replace hx : px.size ≤ 1048576 := hx
        replace hq : Pl.atomOk pa px = true := hq
        replace HS : Hid (Pl.fmtSz (l.take (k + 1)) = Pl.fmtSz (l.take k) + (Pl.fmtA pa px).size) := HS
        have hx' : px.size ≤ maxLen := by unfold maxLen; omega
        have hfz := (Pl.fmt_size hq).2
        have HL := Lib.hid (fun W => l5Format_any pa px W hx)
        generalize Pl.fmtSz (l.take k) = n at HS hn ⊢
        generalize Pl.fmtA pa px = y at HS hfz HL
        clear HA
        go_wp2_with (first
          | (go_at_call 142; (with_reducible refine (HL.out _).mono ?_); rintro e w3 ⟨rfl, hb3⟩; have HB3 := Lib.hid (below_on3 HB2.out hb3); clear hb3)
          | (go_at_call 126; (with_reducible refine (l5Good_any _ _ _ hx').mono ?_); rintro e w2 ⟨he, hb2⟩; rw [hq] at he; subst he; have HB2 := Lib.hid (below_on3 HB.out hb2); have d1 := keepc hb2 c1; have d2 := keepc hb2 c2; clear hb2))
        go_roundw
        case rel => exact ⟨k + 1, by omega, by go_num, by rw [HS.out]; go_num, by rw [HS.out]; omega, HN, HB3.out⟩
        case measure => simp [intOf]; omega
    · obtain rfl : k = l.length := by omega
      have E := Lib.hid (Pl.list_is h1 HA.out)
      generalize Pl.fmtSz (l.take l.length) = n at E hn ⊢
      clear HA
      go_wp2
      go_ret
      exact ⟨ret_bool E.out.symm, HB.out⟩

theorem two_rows {w : World} {b1 b2 : Nat} {v1 v2 : Value} {n m : Nat} {xs ys : List Value} (h : w.ownsRow b1 9 1 v1 n xs) (h2 : w.ownsRow b2 161 2 v2 m ys) : v1.ownBlock = none ∨ v1.ownBlock ≠ v2.ownBlock := by
  rcases h.2 with ⟨rfl, _⟩ | ⟨g, cap, cur, rfl, _, hg, _⟩
  · exact .inl rfl
  · right
    rcases h2.2 with ⟨rfl, _⟩ | ⟨g2, cap2, cur2, rfl, _, hg2, _⟩
    · simp [Value.ownBlock]
    · intro e
      simp only [Value.ownBlock, Option.some.injEq] at e
      subst e
      rw [hg] at hg2
      simp at hg2
theorem made_low (X : World) (T size base b : Nat) (hb : b = X.heap.size) (hl : base ≤ X.heap.size) : (X.alloc (.cells #[] T)).ownsRow base T size (.slice (some ⟨b, 0, none⟩) 0 0) 0 [] := by
  subst hb
  exact own_base (World.ownsRow_made (base := X.heap.size) (e := T) (size := size) X #[] 0 (Nat.le_refl _) (by unfold maxLen; omega) (by simp)) hl
theorem parsed_sz {l : List ByteArray} (h : ∀ x ∈ l, x.size ≤ 1048576) : ∀ p ∈ l.map Pl.parseA, p.2.size ≤ 1048576 := by
  intro p hp
  obtain ⟨x, hx, rfl⟩ := List.mem_map.1 hp
  unfold Pl.parseA
  split
  · exact Nat.le_trans (Pl.kindA_size x) (h x hx)
  · exact Nat.zero_le _

set_option maxRecDepth 20000 in
set_option maxHeartbeats 3200000 in
theorem l5Parse_any (s : ByteArray) (w : World) (hs : s.size ≤ 4194304) :
    Calls Tryz.prog 119 #[.string s] w (Read1 w.heap.size w s) := by
  have HO0 := Lib.hid (World.ownsRow_made (base := w.heap.size) (e := 161) (size := 2) w #[] 0 (Nat.le_refl _) (by unfold maxLen; omega) rfl)
  have HB0 := Lib.hid (Joins.below_alloc1 w (.cells #[] 161))
  by_cases hz : 60 < s.size
  · have E := Lib.hid (Pl.trans_no1 hz)
    have E2 := Lib.hid (Pl.out_no E.out)
    go_enter Tryz.func119, Tryz.ntmps119
    go_wp2
    go_ret2
    exact ⟨_, by rw [E.out]; rfl, by rw [E2.out]; exact HO0.out, HB0.out⟩
  have HS : Hid (∀ W : World, Calls Tryz.prog 153 #[.string s, .int .u8 32] W (Cut1 W.heap.size W 32 s)) := Lib.hid (fun W => l1Split_any s 32 W (by omega))
  have hpl := Pl.parts_len 32 s
  have HPS := Lib.hid (parts_sz 32 s)
  go_enter Tryz.func119, Tryz.ntmps119
  go_wp2_with (go_at_call 153; (with_reducible refine (HS.out _).mono ?_); rintro e w2 ⟨v2, rfl, ho2, hb2⟩; obtain ⟨a2, c2, rfl⟩ := row_formA ho2; have HR2 := Lib.hid ho2; have HB2 := Lib.hid (below_on3 HB0.out hb2); have HO2 := Lib.hid (own_keep HO0.out hb2); clear ho2 hb2)
  go_loopw [4, 6] (fun v i wr => ∃ k : Nat, k ≤ (Pl.parts 32 s).length ∧ i = .int .i64 k ∧ Hid (((Pl.parts 32 s).take k).all Pl.parseOk = true) ∧ wr.ownsRow w.heap.size 161 2 v k (folds (((Pl.parts 32 s).take k).map Pl.parseA)) ∧ Below w.heap.size w wr ∧ wr.ownsRow (w.heap.size + 1) 9 1 (.slice a2 (Pl.parts 32 s).length c2) (Pl.parts 32 s).length (strs (Pl.parts 32 s))) (fun _ i _ => (Pl.parts 32 s).length - (intOf i).toNat)
  case atStart => exact ⟨0, Nat.zero_le _, rfl, Lib.hid rfl, HO2.out, HB2.out, by have h := HR2.out; rw [World.size_alloc] at h; exact h⟩
  clear HO2 HB2 HR2
  case round =>
    obtain ⟨k, hk, rfl, HA, hown, hb, hblk⟩ := hrel
    have HO := Lib.hid hown; have HB := Lib.hid hb; have HK := Lib.hid hblk
    clear hown hb hblk
    by_cases hlt : k < (Pl.parts 32 s).length
    · obtain ⟨_, _, e7, _, _, _, _, hc7⟩ := Rows.of_own HK.out
      cases e7
      obtain ⟨b, off, rfl, c1⟩ := hc7 k _ (strs_at _ k hlt)
      clear hc7
      have hx := HPS.out k hlt
      have hki : (k : Int) < ((Pl.parts 32 s).length : Int) := by omega
      cases hq : Pl.parseOk (Pl.parts 32 s)[k]
      · have E := Lib.hid (Pl.trans_no2 (all_no hlt hq))
        have E2 := Lib.hid (Pl.out_no E.out)
        generalize (Pl.parts 32 s)[k] = x at c1 hx hq
        have HP := Lib.hid (fun W => specParseAtom_any x W (by omega))
        rw [hq] at HP
        clear HA
        go_wp2_with (go_at_call 154; (with_reducible refine (HP.out _).mono ?_); rintro e w3 ⟨rfl, hb3⟩; have HB3 := Lib.hid (below_on3 HB.out hb3); clear hb3)
        go_ret2
        exact ⟨_, by rw [E.out]; rfl, by rw [E2.out]; exact made_low _ _ _ _ _ (by rw [World.size_alloc]) (by rw [World.size_alloc]; exact Nat.le_succ_of_le HB3.out.size), (HB3.out.alloc HB3.out.size _).alloc (by rw [World.size_alloc]; exact Nat.le_succ_of_le HB3.out.size) _⟩
      · have HN := Lib.hid (all_yes hlt HA.out hq)
        have HX := Lib.hid (map_next hlt)
        generalize (Pl.parts 32 s)[k] = x at c1 hx hq HX
        have HP := Lib.hid (fun W => specParseAtom_any x W (by omega))
        rw [hq] at HP
        obtain ⟨qa, qt, hpa⟩ : ∃ qa qt, Pl.parseA x = (qa, qt) := ⟨_, _, rfl⟩
        rw [hpa] at HP HX
        clear hpa HA
        generalize ((Pl.parts 32 s).take k).map Pl.parseA = l at HO HX
        go_wp2_with (first
          | (at_builtin; refine app_atm rfl _ _ rfl w.heap.size _ k (folds l) rfl ((HO3.out.alloc _).alloc _) ⟨_, 0, none⟩ 1 qa qt rfl (atm_news _ _ _ _ _ (by rw [World.size_alloc])) (by omega) (by have := HB3.out.size; rw [World.size_alloc, World.size_alloc]; omega) ?_; intro v4 w4 hown4 hg4)
          | (go_at_call 154; (with_reducible refine (HP.out _).mono ?_); rintro e w3 ⟨rfl, hb3⟩; have HB3 := Lib.hid (below_on3 HB.out hb3); have HO3 := Lib.hid (own_keep HO.out hb3); have HK3 := Lib.hid (own_keep HK.out hb3); clear hb3))
        have hb4 : Below w3.heap.size w3 ((w3.alloc (.cells #[.int .i64 qa, .string qt] 161)).alloc (.cells #[.int .i64 qa, .string qt] 161)) := Joins.below_alloc2 _ _ _
        have ho4 := (HO3.out.alloc (.cells #[.int .i64 qa, .string qt] 161)).alloc (.cells #[.int .i64 qa, .string qt] 161)
        have HB4 := Lib.hid ((below_on3 HB3.out hb4).grown hg4 (Nat.le_trans HB3.out.size hb4.size) (fun j hj => (ho4.lt j hj).1))
        have hk4 := own_keep HK3.out hb4
        have HK4 := Lib.hid (hk4.kept hg4 (two_rows hk4 ho4))
        have HO4 := Lib.hid hown4
        clear HB HO HK HB3 HO3 HK3 hown4 hg4 hb4 ho4 hk4
        go_roundw
        case rel => exact ⟨k + 1, by omega, by go_num, HN, by rw [HX.out, folds_snocA]; exact HO4.out, HB4.out, HK4.out⟩
        case measure => simp [intOf]; omega
    · obtain rfl : k = (Pl.parts 32 s).length := by omega
      have ha := HA.out
      rw [List.take_length] at ha
      rw [List.take_length] at HO
      have E := Lib.hid (Pl.trans_is (by omega) ha)
      have HLO := Lib.hid (Pl.list_parts (by omega) ha)
      have hps := parsed_sz (l := Pl.parts 32 s) (fun x hx => by obtain ⟨i, hi, rfl⟩ := List.mem_iff_getElem.1 hx; have := HPS.out i hi; omega)
      have HPZ := Lib.hid hps
      clear ha HA hps
      obtain ⟨ao, co, rfl⟩ := row_formA HO.out
      have HLL := Lib.hid (l5List_any _ _ wr (show Rows wr (.slice ao (Pl.parts 32 s).length co) ((Pl.parts 32 s).map Pl.parseA).length 2 (folds ((Pl.parts 32 s).map Pl.parseA)) by rw [List.length_map]; exact Rows.of_own HO.out) (by rw [List.length_map]; omega) HPZ.out)
      by_cases h10 : (Pl.parts 32 s).length ≤ 10
      · rw [decide_eq_true h10] at E HLO
        rw [HLO.out] at HLL
        have E2 := Lib.hid (Pl.out_yes E.out)
        go_wp2_with (go_at_call 94; (with_reducible refine HLL.out.mono ?_); rintro e w5 ⟨rfl, hb5⟩; have HO5 := Lib.hid (own_keep HO.out hb5); have HB5 := Lib.hid (below_on3 HB.out hb5); clear hb5)
        go_ret2
        exact ⟨_, by rw [E.out]; rfl, by rw [E2.out, List.length_map]; exact HO5.out, HB5.out⟩
      · rw [decide_eq_false h10] at E HLO
        rw [HLO.out] at HLL
        have E2 := Lib.hid (Pl.out_no E.out)
        go_wp2_with (go_at_call 94; (with_reducible refine HLL.out.mono ?_); rintro e w5 ⟨rfl, hb5⟩; have HB5 := Lib.hid (below_on3 HB.out hb5); clear hb5)
        go_ret2
        exact ⟨_, by rw [E.out]; rfl, by rw [E2.out]; exact made_low _ _ _ _ _ rfl HB5.out.size, HB5.out.alloc HB5.out.size _⟩

end Go.Proofs.YtdidgaibgkdjoaaGreatDoor

namespace Go.Proofs.YtdidgaibgkdjoaaGreatDoor
open Go.RowKit

theorem max_keepT {w w' : World} (h : ∃ m, w.cell? ⟨0, 0, none⟩ = some (.int .i64 m)) (hb : Below w.heap.size w w') : ∃ m, w'.cell? ⟨0, 0, none⟩ = some (.int .i64 m) := by
  obtain ⟨m, h⟩ := h
  exact ⟨m, keepcT hb h⟩

set_option maxHeartbeats 800000 in
theorem IsValidEntry_any (u : Value) (l : List Int) (t : ByteArray) (w : World) (hr : Rows w u l.length 1 (ints l)) (hl : l.length ≤ 1048576) (ht : t.size ≤ 1048576) (hm : ∃ m, w.cell? ⟨0, 0, none⟩ = some (.int .i64 m)) :
    Calls Tryz.prog 96 #[.agg #[u, .string t]] w fun e w' => e = .returned (.bool (Pl.entOk (l, t))) ∧ Below w.heap.size w w' := by
  have HB0 := Lib.hid (Joins.below_alloc1 w (.cells #[u, .string t] 39))
  have HM0 := Lib.hid (max_keepT hm HB0.out)
  have HV := Lib.hid (IsValidOutline_any u l _ (hr.keep HB0.out) hl)
  have HT := Lib.hid (fun W h => isTranslation_any t W (by omega) h)
  have HC := Lib.hid (show (w.alloc (.cells #[u, .string t] 39)).cell? ⟨w.heap.size, 1, none⟩ = some (.string t) by simp [go_sem])
  obtain ⟨a, cap, rfl, _, _⟩ := rows_form hr
  have E := Lib.hid (show Pl.entOk (l, t) = (Pl.outlineB l && Pl.transOk t) from rfl)
  clear hr hm
  generalize Pl.transOk t = y at HT E
  generalize Pl.outlineB l = x at HV E
  cases x
  all_goals
    go_enter Tryz.func96, Tryz.ntmps96
    go_wp2_with (first
      | (go_at_call 68; (with_reducible refine HV.out.mono ?_); rintro e w1 ⟨rfl, hb1⟩; have d1 := keepcT hb1 HC.out; have HM1 := Lib.hid (max_keepT HM0.out hb1); have HB1 := Lib.hid (below_on3 HB0.out hb1); clear hb1)
      | (go_at_call 77; (with_reducible refine (HT.out _ HM1.out).mono ?_); rintro e w2 ⟨rfl, hb2⟩; have HB2 := Lib.hid (below_on3 HB1.out hb2); clear hb2))
    go_ret
    exact ⟨ret_bool (by rw [E.out]; rfl), by first | exact HB2.out | exact HB1.out⟩

set_option maxHeartbeats 800000 in
theorem l6Entry_any (u : Value) (l : List Int) (t : ByteArray) (w : World) (hr : Rows w u l.length 1 (ints l)) (hl : l.length ≤ 1048576) (ht : t.size ≤ 1048576) :
    Calls Tryz.prog 98 #[.agg #[u, .string t]] w fun e w' => e = .returned (.bool (Pl.entOk (l, t))) ∧ Below w.heap.size w w' := by
  have HB0 := Lib.hid (Joins.below_alloc1 w (.cells #[u, .string t] 39))
  have HR := Lib.hid (hr.keep HB0.out)
  have HT := Lib.hid (fun W => l5Parse_any t W (by omega))
  unfold Read1 at HT
  have HC := Lib.hid (show (w.alloc (.cells #[u, .string t] 39)).cell? ⟨w.heap.size, 0, none⟩ = some u by simp [go_sem])
  obtain ⟨a, cap, rfl, _, _⟩ := rows_form hr
  have E := Lib.hid (show Pl.entOk (l, t) = (Pl.outlineB l && Pl.transOk t) from rfl)
  have HV := Lib.hid (fun W h => l4Good_any (.slice a l.length cap) l W h hl)
  clear hr
  generalize Pl.transOut t = o at HT
  generalize Pl.transOk t = y at HT E
  generalize Pl.outlineB l = x at HV E
  cases x
  all_goals
    go_enter Tryz.func98, Tryz.ntmps98
    go_wp2_with (first
      | (go_at_call 119; (with_reducible refine (HT.out _).mono ?_); rintro e w1 ⟨v1, rfl, ho1, hb1⟩; obtain ⟨a1, c1, rfl⟩ := row_formA ho1; have d1 := keepcT hb1 HC.out; have HR1 := Lib.hid (HR.out.keep hb1); have HB1 := Lib.hid (below_on3 HB0.out hb1); clear hb1 ho1)
      | (go_at_call 71; (with_reducible refine (HV.out _ HR1.out).mono ?_); rintro e w' ⟨rfl, rfl⟩))
    go_ret
    exact ⟨ret_bool (by rw [E.out]; rfl), HB1.out⟩

end Go.Proofs.YtdidgaibgkdjoaaGreatDoor

namespace Go.Proofs.YtdidgaibgkdjoaaGreatDoor
open Go.RowKit

theorem all_done {l : List Ent} {o : List Int} (h : (l.take l.length).all (fun p => !(p.1 == o)) = true) : l.all (fun p => !(p.1 == o)) = true := by
  rwa [List.take_length] at h

set_option maxRecDepth 20000 in
set_option maxHeartbeats 1600000 in
theorem l6At_any (v vo : Value) (l : List Ent) (o : List Int) (w : World) (hr : Ents w v l) (hl : l.length ≤ 1048576) (hs : ∀ p ∈ l, p.1.length ≤ 1048576) (ho : Rows w vo o.length 1 (ints o)) :
    Calls Tryz.prog 103 #[.agg #[v], vo] w fun e w' => e = .returned (.int .i64 (Pl.atD l o)) ∧ Below w.heap.size w w' := by
  have HB0 := Lib.hid (Joins.below_alloc1 w (.cells #[v] 26))
  have HE := Lib.hid (hr.keep HB0.out)
  have HO := Lib.hid (ho.keep HB0.out)
  have HF := Lib.hid hs
  obtain ⟨a, cap, rfl, _, _⟩ := ent_form hr
  obtain ⟨ao, co, rfl, _, _⟩ := rows_form ho
  have HC := Lib.hid (show (w.alloc (.cells #[.slice a l.length cap] 26)).cell? ⟨w.heap.size, 0, none⟩ = some (.slice a l.length cap) by simp [go_sem])
  clear hr hs ho
  go_enter Tryz.func103, Tryz.ntmps103
  go_upto_region 2 with fail
  obtain ⟨W0, hW0⟩ : ∃ W0, W0 = w.alloc (.cells #[.slice a l.length cap] 26) := ⟨_, rfl⟩
  rw [← hW0] at HB0 HE HC HO ⊢
  have HW := Lib.hid (show w.heap.size ≤ W0.heap.size from HB0.out.size)
  clear hW0
  go_loopw [5] (fun i wr => ∃ k : Nat, k ≤ l.length ∧ i = .int .i64 k ∧ Hid ((l.take k).all (fun p => !(p.1 == o)) = true) ∧ Below W0.heap.size W0 wr) (fun i _ => l.length - (intOf i).toNat)
  case atStart => exact ⟨0, Nat.zero_le _, rfl, Lib.hid rfl, Below.refl _ _⟩
  case round =>
    obtain ⟨k, hk, rfl, HA, hb⟩ := hrel
    have HB := Lib.hid hb; clear hb
    have q0 := keepcT HB.out HC.out
    by_cases hlt : k < l.length
    · obtain ⟨b, off, u, rfl, c1, c2, c3⟩ := ent_at (HE.out.keep HB.out) k hlt
      have hki : (k : Int) < (l.length : Int) := by omega
      have hk0 : (0 : Int) ≤ (k : Int) := by omega
      have hf := HF.out _ (List.getElem_mem hlt)
      obtain ⟨au, cu, rfl, _, _⟩ := rows_form c3
      have HR := Lib.hid c3
      have HO1 := Lib.hid (HO.out.keep HB.out)
      clear c3
      cases hq : (l[k].1 == o)
      · have HA2 := Lib.hid (Pl.all_next hlt HA.out hq)
        generalize l[k] = p at c1 c2 hf HR hq
        obtain ⟨pl, pt⟩ := p
        replace hq : (pl == o) = false := hq
        replace hf : pl.length ≤ 1048576 := hf
        replace HR : Hid (Rows wr (.slice au pl.length cu) pl.length 1 (ints pl)) := HR
        have HS := Lib.hid (l1Same_any _ _ pl o wr HR.out HO1.out hf)
        rw [hq] at HS
        clear HA
        go_wp2_with (go_at_call 147; (with_reducible refine HS.out.mono ?_); rintro e w1 ⟨rfl, hd⟩; have HB2 := Lib.hid (HB.out.trans (hd.below.mono HB.out.size)); clear hd)
        go_roundw
        case rel => exact ⟨k + 1, by omega, by go_num, HA2, HB2.out⟩
        case measure => simp [intOf]; omega
      · have E := Lib.hid (Pl.atD_hit hlt HA.out hq)
        generalize l[k] = p at c1 c2 hf HR hq
        obtain ⟨pl, pt⟩ := p
        replace hq : (pl == o) = true := hq
        replace hf : pl.length ≤ 1048576 := hf
        replace HR : Hid (Rows wr (.slice au pl.length cu) pl.length 1 (ints pl)) := HR
        have HS := Lib.hid (l1Same_any _ _ pl o wr HR.out HO1.out hf)
        rw [hq] at HS
        clear HA
        go_wp2_with (go_at_call 147; (with_reducible refine HS.out.mono ?_); rintro e w1 ⟨rfl, hd⟩; have HB2 := Lib.hid (HB.out.trans (hd.below.mono HB.out.size)); clear hd)
        go_ret
        exact ⟨ret_int E.out.symm, HB0.out.trans (HB2.out.mono HW.out)⟩
    · obtain rfl : k = l.length := by omega
      have E := Lib.hid (Pl.atD_none (all_done HA.out))
      go_wp2
      go_ret
      exact ⟨ret_int E.out.symm, HB0.out.trans (HB.out.mono HW.out)⟩

set_option maxRecDepth 20000 in
set_option maxHeartbeats 1600000 in
theorem IndexFuncE_any (o : List Int) (g : Nat) (lb : Array Value) (eg : ∀ args w, (callFunc g args).run Tryz.prog w = .ok (.enter g args) w) (v : Value) (l : List Ent) (w : World) (hr : Ents w v l) (hl : l.length ≤ 1048576) (hs : ∀ p ∈ l, p.1.length ≤ 1048576)
    (hp : ∀ (W : World) (u : Value) (q : List Int) (t : ByteArray), Below w.heap.size w W → Rows W u q.length 1 (ints q) → q.length ≤ 1048576 → Calls Tryz.prog g (#[.agg #[u, .string t]] ++ lb) W fun e w' => e = .returned (.bool (q == o)) ∧ Below W.heap.size W w') :
    Calls Tryz.prog 144 #[v, .func (.func g) #[] lb] w fun e w' => e = .returned (.int .i64 (Pl.atD l o)) ∧ Below w.heap.size w w' := by
  have HP := Lib.hid hp
  have HE := Lib.hid hr
  have HF := Lib.hid hs
  obtain ⟨a, cap, rfl, _, _⟩ := ent_form hr
  clear hp hr hs
  go_enter Tryz.func144, Tryz.ntmps144
  go_wp2
  go_loopw [5, 8] (fun _ i wr => ∃ k : Nat, k ≤ l.length ∧ i = .int .i64 k ∧ Hid ((l.take k).all (fun p => !(p.1 == o)) = true) ∧ Below w.heap.size w wr) (fun _ i _ => l.length - (intOf i).toNat)
  case atStart => exact ⟨0, Nat.zero_le _, rfl, Lib.hid rfl, Below.refl _ _⟩
  case round =>
    obtain ⟨k, hk, rfl, HA, hb⟩ := hrel
    have HB := Lib.hid hb; clear hb
    by_cases hlt : k < l.length
    · obtain ⟨b, off, u, rfl, c1, c2, c3⟩ := ent_at (HE.out.keep HB.out) k hlt
      have hki : (k : Int) < (l.length : Int) := by omega
      have hk0 : (0 : Int) ≤ (k : Int) := by omega
      have hf := HF.out _ (List.getElem_mem hlt)
      cases hq : (l[k].1 == o)
      · have HA2 := Lib.hid (Pl.all_next hlt HA.out hq)
        generalize l[k] = p at c1 c2 hf c3 hq
        obtain ⟨pl, pt⟩ := p
        have HS := Lib.hid (HP.out wr u pl pt HB.out c3 hf)
        have hq2 : (pl == o) = false := hq
        rw [hq2] at HS
        clear HA hq hq2 c3
        go_wp2_with (go_at_fn g; (with_reducible refine HS.out.mono ?_); rintro e w1 ⟨rfl, hb1⟩; have HB2 := Lib.hid (HB.out.trans (hb1.mono HB.out.size)); clear hb1)
        go_roundw
        case rel => exact ⟨k + 1, by omega, by go_num, HA2, HB2.out⟩
        case measure => simp [intOf]; omega
      · have E := Lib.hid (Pl.atD_hit hlt HA.out hq)
        generalize l[k] = p at c1 c2 hf c3 hq
        obtain ⟨pl, pt⟩ := p
        have HS := Lib.hid (HP.out wr u pl pt HB.out c3 hf)
        have hq2 : (pl == o) = true := hq
        rw [hq2] at HS
        clear HA hq hq2 c3
        go_wp2_with (go_at_fn g; (with_reducible refine HS.out.mono ?_); rintro e w1 ⟨rfl, hb1⟩; have HB2 := Lib.hid (HB.out.trans (hb1.mono HB.out.size)); clear hb1)
        go_ret
        exact ⟨ret_int E.out.symm, HB2.out⟩
    · obtain rfl : k = l.length := by omega
      have E := Lib.hid (Pl.atD_none (all_done HA.out))
      go_wp2
      go_ret
      exact ⟨ret_int E.out.symm, HB.out⟩

set_option maxHeartbeats 1600000 in
theorem find_any (v vo : Value) (l : List Ent) (o : List Int) (w : World) (hr : Ents w v l) (hl : l.length ≤ 1048576) (hs : ∀ p ∈ l, p.1.length ≤ 1048576) (ho : Rows w vo o.length 1 (ints o)) :
    Calls Tryz.prog 101 #[.agg #[v], vo] w fun e w' => e = .returned (.int .i64 (Pl.atD l o)) ∧ Below w.heap.size w w' := by
  have HB0 := Lib.hid (Joins.below_alloc2 w (.cells #[v] 26) (.cells #[vo] 36))
  obtain ⟨a, cap, rfl, _, _⟩ := ent_form hr
  obtain ⟨ao, co, rfl, _, _⟩ := rows_form ho
  have H := Lib.hid (IndexFuncE_any o 145 #[.pointer (some ⟨w.heap.size + 1, 0, none⟩)] (enters_of Tryz.func145 (by kernel_rfl) rfl) (.slice a l.length cap) l ((w.alloc (.cells #[.slice a l.length cap] 26)).alloc (.cells #[.slice ao o.length co] 36)) (hr.keep HB0.out) hl hs (fun W u q t hbW hq hql => by
    show Calls Tryz.prog 145 #[.agg #[u, .string t], .pointer (some ⟨w.heap.size + 1, 0, none⟩)] _ _
    have hc0 : ((w.alloc (.cells #[.slice a l.length cap] 26)).alloc (.cells #[.slice ao o.length co] 36)).cell? ⟨w.heap.size + 1, 0, none⟩ = some (.slice ao o.length co) := by simp [go_sem]
    have hc := keepcT hbW hc0
    have HO := Lib.hid ((ho.keep HB0.out).keep hbW)
    clear hc0 hbW
    have HB1 := Lib.hid (Joins.below_alloc1 W (.cells #[u, .string t] 39))
    have hc1 := keepcT HB1.out hc
    have hs := Equal_any u (.slice ao o.length co) q o _ (hq.keep HB1.out) (HO.out.keep HB1.out) hql
    obtain ⟨aq, cq, rfl, _, _⟩ := rows_form hq
    have HS := Lib.hid hs
    generalize (q == o) = bq at HS
    clear hs hq HO hc
    go_enter Tryz.func145, Tryz.ntmps145
    go_wp2_with (go_at_call 146; (with_reducible refine HS.out.mono ?_); rintro e w1 ⟨rfl, hd⟩; have HB2 := Lib.hid (HB1.out.trans (hd.below.mono HB1.out.size)); clear hd)
    go_ret
    exact ⟨rfl, HB2.out⟩))
  clear hr ho
  go_enter Tryz.func101, Tryz.ntmps101
  go_wp2_with (go_at_call 144; (with_reducible refine H.out.mono ?_); rintro e w1 ⟨rfl, hb1⟩; have HB2 := Lib.hid (HB0.out.trans (hb1.mono HB0.out.size)); clear hb1)
  go_ret
  exact ⟨rfl, HB2.out⟩

end Go.Proofs.YtdidgaibgkdjoaaGreatDoor

namespace Go.Proofs.YtdidgaibgkdjoaaGreatDoor
open Go.RowKit

theorem max_keep {w w' : World} (h : ∃ m, w.cell? ⟨0, 0, none⟩ = some (.int .i64 m)) (hb : Below w.heap.size w w') : ∃ m, w'.cell? ⟨0, 0, none⟩ = some (.int .i64 m) := by
  obtain ⟨m, h⟩ := h
  exact ⟨m, keepcT hb h⟩
/-- a text with the suffix of a fold -/
def Pl.foldT (t u : ByteArray) : ByteArray := t ++ ⟨#[32, 123, 94]⟩ ++ u ++ ⟨#[125]⟩
def Pl.ftOk (t u : ByteArray) : Bool := Pl.transOk t && Pl.transOk (Pl.foldT t u)
def Pl.ftOut (t u : ByteArray) : ByteArray := if Pl.ftOk t u = true then Pl.foldT t u else ⟨#[]⟩
def Pl.foldedOk (k : Int) (t u : ByteArray) : Bool := Pl.foldB k u && Pl.ftOk t u
def Pl.foldedOut (k : Int) (t u : ByteArray) : ByteArray := if Pl.foldedOk k t u = true then Pl.foldT t u else ⟨#[]⟩
theorem Pl.foldT_size (t u : ByteArray) : (Pl.foldT t u).size = t.size + u.size + 4 := by
  unfold Pl.foldT
  rw [ByteArray.size_append, ByteArray.size_append, ByteArray.size_append, show (⟨#[32, 123, 94]⟩ : ByteArray).size = 3 from rfl, show (⟨#[125]⟩ : ByteArray).size = 1 from rfl]
  omega

set_option maxHeartbeats 1600000 in
theorem l10Text_any (t : ByteArray) (k : Int) (u : ByteArray) (w : World) (ht : t.size ≤ 1048576) (hu : u.size ≤ 1048576) :
    Calls Tryz.prog 74 #[.string t, .agg #[.int .i64 k, .string u]] w fun e w' => e = .returned (.tuple #[.string (Pl.ftOut t u), .bool (Pl.ftOk t u)]) ∧ Below w.heap.size w w' := by
  have HB0 := Lib.hid (Joins.below_alloc1 w (.cells #[.int .i64 k, .string u] 64))
  have HC := Lib.hid (show (w.alloc (.cells #[.int .i64 k, .string u] 64)).cell? ⟨w.heap.size, 1, none⟩ = some (.string u) by simp [go_sem])
  have H1 := Lib.hid (fun W => l5Parse_any t W (by omega))
  have H2 := Lib.hid (fun W => l5Parse_any (t ++ ⟨#[32, 123, 94]⟩ ++ u ++ ⟨#[125]⟩) W (by have := Pl.foldT_size t u; unfold Pl.foldT at this; omega))
  have E1 := Lib.hid (show Pl.ftOk t u = (Pl.transOk t && Pl.transOk (t ++ ⟨#[32, 123, 94]⟩ ++ u ++ ⟨#[125]⟩)) from rfl)
  have E2 := Lib.hid (show Pl.ftOut t u = if Pl.ftOk t u = true then t ++ ⟨#[32, 123, 94]⟩ ++ u ++ ⟨#[125]⟩ else ⟨#[]⟩ from rfl)
  unfold Read1 at H1 H2
  generalize Pl.transOut t = o1 at H1
  generalize Pl.transOut (t ++ ⟨#[32, 123, 94]⟩ ++ u ++ ⟨#[125]⟩) = o2 at H2
  generalize Pl.transOk (t ++ ⟨#[32, 123, 94]⟩ ++ u ++ ⟨#[125]⟩) = y at H2 E1
  generalize Pl.transOk t = x at H1 E1
  cases x <;> cases y
  all_goals
    go_enter Tryz.func74, Tryz.ntmps74
    go_wp2_with (first
      | (go_at_call 119; (with_reducible refine (H1.out _).mono ?_); rintro e w1 ⟨v1, rfl, ho1, hb1⟩; obtain ⟨a1, c1, rfl⟩ := row_formA ho1; have d1 := keepcT hb1 HC.out; have HB1 := Lib.hid (below_on3 HB0.out hb1); clear ho1 hb1)
      | (go_at_call 119; (with_reducible refine (H2.out _).mono ?_); rintro e w2 ⟨v2, rfl, ho2, hb2⟩; obtain ⟨a2, c2, rfl⟩ := row_formA ho2; have HB2 := Lib.hid (below_on3 HB1.out hb2); clear ho2 hb2))
    go_ret2
    exact ⟨by rw [E2.out, E1.out]; rfl, HB2.out⟩

set_option maxHeartbeats 1600000 in
theorem FoldedText_any (t : ByteArray) (k : Int) (u : ByteArray) (w : World) (ht : t.size ≤ 1048576) (hu : u.size ≤ 1048576) (hm : ∃ m, w.cell? ⟨0, 0, none⟩ = some (.int .i64 m)) :
    Calls Tryz.prog 30 #[.string t, .agg #[.int .i64 k, .string u]] w fun e w' => e = .returned (.tuple #[.string (Pl.foldedOut k t u), .bool (Pl.foldedOk k t u)]) ∧ Below w.heap.size w w' := by
  have HB0 := Lib.hid (Joins.below_alloc1 w (.cells #[.int .i64 k, .string u] 64))
  have HM0 := Lib.hid (max_keep hm HB0.out)
  clear hm
  have hu' : u.size ≤ maxLen := by unfold maxLen; omega
  have H0 := Lib.hid (fun W => isFold_any k u W hu')
  have H1 := Lib.hid (fun W h => isTranslation_any t W (by omega) h)
  have H2 := Lib.hid (fun W h => isTranslation_any (t ++ ⟨#[32, 123, 94]⟩ ++ u ++ ⟨#[125]⟩) W (by have := Pl.foldT_size t u; unfold Pl.foldT at this; omega) h)
  have E1 := Lib.hid (show Pl.foldedOk k t u = (Pl.foldB k u && (Pl.transOk t && Pl.transOk (t ++ ⟨#[32, 123, 94]⟩ ++ u ++ ⟨#[125]⟩))) from rfl)
  have E2 := Lib.hid (show Pl.foldedOut k t u = if Pl.foldedOk k t u = true then t ++ ⟨#[32, 123, 94]⟩ ++ u ++ ⟨#[125]⟩ else ⟨#[]⟩ from rfl)
  generalize Pl.transOk (t ++ ⟨#[32, 123, 94]⟩ ++ u ++ ⟨#[125]⟩) = y at H2 E1
  generalize Pl.transOk t = x at H1 E1
  generalize Pl.foldB k u = z at H0 E1
  cases z <;> cases x <;> cases y
  all_goals
    go_enter Tryz.func30, Tryz.ntmps30
    go_wp2_with (first
      | (go_at_call 77; (with_reducible refine (H1.out _ HM1.out).mono ?_); rintro e w2 ⟨rfl, hb2⟩; have HM2 := Lib.hid (max_keep HM1.out hb2); have HB2 := Lib.hid (below_on3 HB1.out hb2); clear hb2)
      | (go_at_call 77; (with_reducible refine (H2.out _ HM2.out).mono ?_); rintro e w3 ⟨rfl, hb3⟩; have HB3 := Lib.hid (below_on3 HB2.out hb3); clear hb3)
      | (go_at_call 75; (with_reducible refine (H0.out _).mono ?_); rintro e w1 ⟨rfl, hb1⟩; have HM1 := Lib.hid (max_keep HM0.out hb1); have HB1 := Lib.hid (below_on3 HB0.out hb1); clear hb1))
    go_ret2
    exact ⟨by rw [E2.out, E1.out]; rfl, by first | exact HB3.out | exact HB2.out | exact HB1.out⟩

end Go.Proofs.YtdidgaibgkdjoaaGreatDoor
