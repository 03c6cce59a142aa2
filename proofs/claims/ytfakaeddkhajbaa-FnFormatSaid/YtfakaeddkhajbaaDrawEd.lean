/-
  CONTRACTS: DrawLeastEdit, DrawApplyEdit, DrawInvertEdit, DrawComposeEdits: what is drawn is told by bounds alone.
-/
import Derived.Test.YtfakaeddkhajbaaDrawScr
import Derived.Deep.RegionHeld3
namespace Go.Proofs.Ytfakaeddkhajbaa
open Go.RowKit

set_option maxHeartbeats 800000 in
theorem DrawLeastEdit_any (v : Value) (w : World) (h : Code8 w v) : Calls Try.prog 15 #[v] w (MadeSS w 2010) := by
  obtain ⟨l, h1, h2⟩ := h
  have h3 := h2
  obtain ⟨a, cap, rfl, _, _, _, _, _⟩ := h3
  have HD := Lib.hid (Read.refl (Cur.new rfl h1 h2 92))
  clear h1 h2
  go_enter Try.func15, Try.ntmps15
  go_wp2_with (first | (go_at_call 71; refine (anyScreen_any (by repeat (first | with_reducible exact HD.out | with_reducible apply Read.alloc | with_reducible apply Read.to)) (by omega)).mono ?_; rintro e w' ⟨⟨sa, rfl, hsa⟩, hd⟩; replace HD := Lib.hid hd; clear hd))
  go_ret2
  exact ⟨_, _, rfl, by assumption, by assumption, HD.out.made⟩

theorem keepE {w w' : World} (hb : Below w.heap.size w w') {b o : Nat} {u : Value} (h : w.cell? ⟨b, o, none⟩ = some u) : w'.cell? ⟨b, o, none⟩ = some u := by
  rw [hb.cell (World.block_lt_of_cell? _ _ h)]; exact h

/-- a text and an edit, made in new memory -/
def MadeSE (w : World) (e : Ending) (w' : World) : Prop := ∃ (s : ByteArray) (b : Int) (t : ByteArray), e = .returned (.tuple #[.string s, .agg #[.int .i64 b, .string t]]) ∧ s.size ≤ 2010 ∧ -1 ≤ b ∧ b ≤ 2001 ∧ t.size ≤ 2010 ∧ Below w.heap.size w w'
def MadeEE (w : World) (e : Ending) (w' : World) : Prop := ∃ (a : Int) (s : ByteArray) (b : Int) (t : ByteArray), e = .returned (.tuple #[.agg #[.int .i64 a, .string s], .agg #[.int .i64 b, .string t]]) ∧ s.size ≤ 2010 ∧ -1 ≤ a ∧ a ≤ 2001 ∧ -1 ≤ b ∧ b ≤ 2001 ∧ t.size ≤ 2010 ∧ Below w.heap.size w w'
theorem Code8.alloc {w : World} {v : Value} (h : Code8 w v) (o : Obj) : Code8 (w.alloc o) v := h.keep ((Below.refl _ _).alloc (Nat.le_refl _) _)

theorem Cur.newAt {v : Value} {m g : Nat} {l : List Int} {w : World} (hg : w.heap.size = g) (hl : l.length = m) (hb : allByte l) (hr : Rows w v m 1 (u8s l)) (T : TypeId) :
    Cur v m g 0 (w.alloc (.cells #[v, .int .i64 0, .int .u64 0] T)) := by
  subst hg; exact Cur.new hl hb hr T

set_option maxHeartbeats 800000 in
theorem DrawApplyEdit_any (v : Value) (w : World) (h : Code8 w v) : Calls Try.prog 19 #[v] w (MadeSE w) := by
  obtain ⟨l, h1, h2⟩ := h.alloc (.cells #[.int .i64 0, .string ⟨#[]⟩] 27)
  clear h
  have h3 := h2
  obtain ⟨a, cap, rfl, _, _, _, _, _⟩ := h3
  have HD := Lib.hid (Read.refl (Cur.newAt (World.size_alloc w (.cells #[.int .i64 0, .string ⟨#[]⟩] 27)) rfl h1 h2 92))
  have hlt : w.heap.size < ((w.alloc (.cells #[.int .i64 0, .string ⟨#[]⟩] 27)).alloc (.cells #[.slice a l.length cap, .int .i64 0, .int .u64 0] 92)).heap.size := by rw [World.size_alloc, World.size_alloc]; omega
  have hne : w.heap.size ≠ w.heap.size + 1 := by omega
  have hc0 : ((w.alloc (.cells #[.int .i64 0, .string ⟨#[]⟩] 27)).alloc (.cells #[.slice a l.length cap, .int .i64 0, .int .u64 0] 92)).cell? ⟨w.heap.size, 0, none⟩ = some (.int .i64 0) := by simp [go_sem]
  have hc1 : ((w.alloc (.cells #[.int .i64 0, .string ⟨#[]⟩] 27)).alloc (.cells #[.slice a l.length cap, .int .i64 0, .int .u64 0] 92)).cell? ⟨w.heap.size, 1, none⟩ = some (.string ⟨#[]⟩) := by simp [go_sem]
  have F := Lib.hid (show thawed ((w.alloc (.cells #[.int .i64 0, .string ⟨#[]⟩] 27)).alloc (.cells #[.slice a l.length cap, .int .i64 0, .int .u64 0] 92)) w.heap.size from fun i => by simp [go_sem])
  have HB := Lib.hid (show Below w.heap.size w ((w.alloc (.cells #[.int .i64 0, .string ⟨#[]⟩] 27)).alloc (.cells #[.slice a l.length cap, .int .i64 0, .int .u64 0] 92)) from (by repeat (first | with_reducible exact Below.refl _ _ | with_reducible assumption | with_reducible refine Below.alloc ?_ ?_ _ | with_reducible refine Below.setCell ?_ ?_ _ | with_reducible refine Below.drew ?_ | with_reducible refine below_drewN ?_ _ | with_reducible refine Below.trans ?_ (Below.mono (by assumption) ?_) | omega | ((repeat (first | rw [World.size_alloc] | rw [size_setCell] | rw [size_drewN] | rw [size_drew])); omega) | exact Nat.le_refl _ | (dsimp only; omega) | (simp [World.setCell]; omega))))
  have C0 := Lib.hid hc0; have C1 := Lib.hid hc1
  clear h1 h2 hc0 hc1
  go_enter Try.func19, Try.ntmps19
  go_wp2_with (first | (go_at_call 71; refine (anyScreen_any (by repeat (first | with_reducible exact HD.out | with_reducible apply Read.alloc | with_reducible apply Read.to)) (by omega)).mono ?_; rintro e w' ⟨⟨sa, rfl, hsa⟩, hd⟩; replace HD := Lib.hid hd; clear hd; have hc0 := ((HD.out.cell hlt hne 0).1.trans C0.out); have hc1 := ((HD.out.cell hlt hne 1).1.trans C1.out); have hf0 := ((HD.out.cell hlt hne 0).2.trans (F.out 0)); have hf1 := ((HD.out.cell hlt hne 1).2.trans (F.out 1))) | (go_at_call 77; refine (edit_any (by repeat (first | with_reducible exact HD.out | with_reducible apply Read.alloc | with_reducible apply Read.to)) (by omega)).mono ?_; rintro e w' ⟨⟨eb, et, rfl, heb1, heb2, het⟩, hd⟩; replace HD := Lib.hid hd; clear hd; have hc0 := ((HD.out.cell hlt hne 0).1.trans C0.out); have hc1 := ((HD.out.cell hlt hne 1).1.trans C1.out); have hf0 := ((HD.out.cell hlt hne 0).2.trans (F.out 0)); have hf1 := ((HD.out.cell hlt hne 1).2.trans (F.out 1))))
  have HB2 := HB.out.trans (HD.out.below w.heap.size (by omega) (by omega))
  exact bodyPost_ret (v := .tuple #[.string sa, .agg #[.int .i64 eb, .string et]]) (by simp [results, Try.results19, go_sem, *]) rfl ⟨_, _, _, rfl, hsa, heb1, heb2, het, (by repeat (first | with_reducible exact Below.refl _ _ | with_reducible assumption | with_reducible refine Below.alloc ?_ ?_ _ | with_reducible refine Below.setCell ?_ ?_ _ | with_reducible refine Below.drew ?_ | with_reducible refine below_drewN ?_ _ | with_reducible refine Below.trans ?_ (Below.mono (by assumption) ?_) | omega | ((repeat (first | rw [World.size_alloc] | rw [size_setCell] | rw [size_drewN] | rw [size_drew])); omega) | exact Nat.le_refl _ | (dsimp only; omega) | (simp [World.setCell]; omega)))⟩

set_option maxHeartbeats 800000 in
theorem DrawInvertEdit_any (v : Value) (w : World) (h : Code8 w v) : Calls Try.prog 27 #[v] w (MadeSE w) := by
  have h2 := h.alloc (.cells #[.int .i64 0, .string ⟨#[]⟩] 27)
  clear h
  go_enter Try.func27, Try.ntmps27
  go_wp2_with (go_at_call 19; refine (DrawApplyEdit_any _ _ h2).mono ?_; rintro e w' ⟨s, b, t, rfl, hs, hb1, hb2, ht, hb⟩; have hc0 : w'.cell? ⟨w.heap.size, 0, none⟩ = some (.int .i64 0) := keepE hb (by simp [go_sem]); have hc1 : w'.cell? ⟨w.heap.size, 1, none⟩ = some (.string ⟨#[]⟩) := keepE hb (by simp [go_sem]); have hf := (bcell hb).2; have hf0 : w'.frozen? ⟨w.heap.size, 0, none⟩ = false := (hf _ _ (by rw [World.size_alloc]; omega)).trans (by simp [go_sem]); have hf1 : w'.frozen? ⟨w.heap.size, 1, none⟩ = false := (hf _ _ (by rw [World.size_alloc]; omega)).trans (by simp [go_sem]))
  exact bodyPost_ret (v := .tuple #[.string s, .agg #[.int .i64 b, .string t]]) (by simp [results, Try.results27, go_sem, *]) rfl ⟨_, _, _, rfl, hs, hb1, hb2, ht, (by repeat (first | with_reducible exact Below.refl _ _ | with_reducible assumption | with_reducible refine Below.alloc ?_ ?_ _ | with_reducible refine Below.setCell ?_ ?_ _ | with_reducible refine Below.drew ?_ | with_reducible refine below_drewN ?_ _ | with_reducible refine Below.trans ?_ (Below.mono (by assumption) ?_) | omega | ((repeat (first | rw [World.size_alloc] | rw [size_setCell] | rw [size_drewN] | rw [size_drew])); omega) | exact Nat.le_refl _ | (dsimp only; omega) | (simp [World.setCell]; omega)))⟩

theorem Cur.set {v : Value} {m g B : Nat} {b : World} (h : Cur v m g B b) {R : Nat} (hR : R ≠ g) (hv : m = 0 ∨ v.ownBlock ≠ some R) (i : Nat) (u : Value) : Cur v m g B (b.setCell ⟨R, i, none⟩ u) := by
  obtain ⟨h1, ⟨l, l1, l2, l3⟩, h3, ⟨k, h4, h5⟩, ⟨z, h6⟩, h7⟩ := h
  have hn : ∀ o : Nat, (⟨R, i, none⟩ : Addr) ≠ ⟨g, o, none⟩ := fun o e => by injection e with e _ _; omega
  refine ⟨h1, ⟨l, l1, l2, rows_grown l3 (grown_set b R i u) hv⟩, ?_, ⟨k, h4, ?_⟩, ⟨z, ?_⟩, fun o => ?_⟩
  · rw [World.cell?_setCell_other _ _ _ _ (hn 0)]; exact h3
  · rw [World.cell?_setCell_other _ _ _ _ (hn 1)]; exact h5
  · rw [World.cell?_setCell_other _ _ _ _ (hn 2)]; exact h6
  · have := h7 o
    simpa [go_sem] using this

theorem cell_alloc {w : World} {b i : Nat} {u : Value} (h : w.cell? ⟨b, i, none⟩ = some u) (o : Obj) : (w.alloc o).cell? ⟨b, i, none⟩ = some u := keepE ((Below.refl _ _).alloc (Nat.le_refl _) _) h
theorem thaw_alloc {w : World} {b : Nat} (h : thawed w b) (hb : b < w.heap.size) (o : Obj) : thawed (w.alloc o) b := fun i => ((bcell ((Below.refl w.heap.size w).alloc (Nat.le_refl _) o)).2 _ _ hb).trans (h i)
theorem Read.cellK {v : Value} {m g B : Nat} {a b : World} (h : Read v m g B a b) {R i : Nat} {u : Value} (hne : R ≠ g) (hc : a.cell? ⟨R, i, none⟩ = some u) : b.cell? ⟨R, i, none⟩ = some u :=
  (h.cell (World.block_lt_of_cell? _ _ hc) hne i).1.trans hc
theorem Read.thaw {v : Value} {m g B : Nat} {a b : World} (h : Read v m g B a b) {R : Nat} (hne : R ≠ g) (hlt : R < a.heap.size) (ht : thawed a R) : thawed b R := fun i => (h.cell hlt hne i).2.trans (ht i)

set_option maxHeartbeats 800000 in
theorem DrawComposeEdits_any (v : Value) (w : World) (h : Code8 w v) : Calls Try.prog 24 #[v] w (MadeEE w) := by
  obtain ⟨l, h1, h2⟩ := (h.alloc (.cells #[.int .i64 0, .string ⟨#[]⟩] 27)).alloc (.cells #[.int .i64 0, .string ⟨#[]⟩] 27)
  clear h
  have h3 := h2
  obtain ⟨a, cap, rfl, _, _, _, _, _⟩ := h3
  have HD := Lib.hid (Cur.newAt (by rw [World.size_alloc, World.size_alloc]) rfl h1 h2 92 : Cur (.slice a l.length cap) l.length (w.heap.size + 1 + 1) 0 (((w.alloc (.cells #[.int .i64 0, .string ⟨#[]⟩] 27)).alloc (.cells #[.int .i64 0, .string ⟨#[]⟩] 27)).alloc (.cells #[.slice a l.length cap, .int .i64 0, .int .u64 0] 92)))
  clear h1 h2
  go_enter Try.func24, Try.ntmps24
  go_wp2_with (go_at_call 77; refine (edit_any (Read.refl HD.out) (by omega)).mono ?_; rintro e w1 ⟨⟨eb, et, rfl, heb1, heb2, het⟩, hd⟩; have H1 := Lib.hid hd; clear hd HD)
  have z1 : w.heap.size + 3 ≤ w1.heap.size := by have := H1.out.2.size; rw [World.size_alloc, World.size_alloc, World.size_alloc] at this; omega
  have c10 := cell_alloc (H1.out.cellK (R := w.heap.size) (i := 0) (u := .int .i64 0) (by omega) (by simp [go_sem])) (.cells #[.int .i64 eb, .string et] 27)
  have c11 := cell_alloc (H1.out.cellK (R := w.heap.size) (i := 1) (u := .string ⟨#[]⟩) (by omega) (by simp [go_sem])) (.cells #[.int .i64 eb, .string et] 27)
  have c20 := cell_alloc (H1.out.cellK (R := w.heap.size + 1) (i := 0) (u := .int .i64 0) (by omega) (by simp [go_sem])) (.cells #[.int .i64 eb, .string et] 27)
  have c21 := cell_alloc (H1.out.cellK (R := w.heap.size + 1) (i := 1) (u := .string ⟨#[]⟩) (by omega) (by simp [go_sem])) (.cells #[.int .i64 eb, .string et] 27)
  have c50 : (w1.alloc (.cells #[.int .i64 eb, .string et] 27)).cell? ⟨w1.heap.size, 0, none⟩ = some (.int .i64 eb) := by simp [go_sem]
  have c51 : (w1.alloc (.cells #[.int .i64 eb, .string et] 27)).cell? ⟨w1.heap.size, 1, none⟩ = some (.string et) := by simp [go_sem]
  have T1 := Lib.hid (thaw_alloc (H1.out.thaw (R := w.heap.size) (by omega) (by rw [World.size_alloc, World.size_alloc, World.size_alloc]; omega) (fun i => by simp [go_sem])) (by omega) (.cells #[.int .i64 eb, .string et] 27))
  have T2 := Lib.hid (thaw_alloc (H1.out.thaw (R := w.heap.size + 1) (by omega) (by rw [World.size_alloc, World.size_alloc, World.size_alloc]; omega) (fun i => by simp [go_sem])) (by omega) (.cells #[.int .i64 eb, .string et] 27))
  have HX := Lib.hid (H1.out.1.alloc (.cells #[.int .i64 eb, .string et] 27))
  have HB : Below w.heap.size w (w1.alloc (.cells #[.int .i64 eb, .string et] 27)) := Below.alloc (Below.trans (show Below w.heap.size w (((w.alloc (.cells #[.int .i64 0, .string ⟨#[]⟩] 27)).alloc (.cells #[.int .i64 0, .string ⟨#[]⟩] 27)).alloc (.cells #[.slice a l.length cap, .int .i64 0, .int .u64 0] 92)) from (by repeat (first | with_reducible exact Below.refl _ _ | with_reducible assumption | with_reducible refine Below.alloc ?_ ?_ _ | with_reducible refine Below.setCell ?_ ?_ _ | with_reducible refine Below.drew ?_ | with_reducible refine below_drewN ?_ _ | with_reducible refine Below.trans ?_ (Below.mono (by assumption) ?_) | omega | ((repeat (first | rw [World.size_alloc] | rw [size_setCell] | rw [size_drewN] | rw [size_drew])); omega) | exact Nat.le_refl _ | (dsimp only; omega) | (simp [World.setCell]; omega)))) (H1.out.below w.heap.size (by omega) (by rw [World.size_alloc, World.size_alloc, World.size_alloc]; omega))) (by omega) _
  have zx : (w1.alloc (.cells #[.int .i64 eb, .string et] 27)).heap.size = w1.heap.size + 1 := World.size_alloc _ _
  generalize w1.alloc (.cells #[.int .i64 eb, .string et] 27) = X at c10 c11 c20 c21 c50 c51 T1 T2 HX HB zx ⊢
  have zd : X.drew.heap.size = w1.heap.size + 1 := zx
  clear H1
  go_region_with (go_at_call 77; refine (edit_any (Read.refl (by repeat (first | with_reducible exact HX.out | with_reducible apply Cur.drewN | with_reducible apply Cur.drew))) (by omega)).mono ?_; rintro e w2 ⟨⟨eb2, et2, rfl, heb3, heb4, het2⟩, hd⟩; have H2 := Lib.hid hd; clear hd; have d10 := H2.out.cellK (by omega) c10; have d11 := H2.out.cellK (by omega) c11; have d20 := H2.out.cellK (by omega) c20; have d21 := H2.out.cellK (by omega) c21; have d50 := H2.out.cellK (by omega) c50; have d51 := H2.out.cellK (by omega) c51; have hf10 := H2.out.thaw (by omega) (by omega) T1.out 0; have hf11 := H2.out.thaw (by omega) (by omega) T1.out 1; have hf20 := H2.out.thaw (by omega) (by omega) T2.out 0; have hf21 := H2.out.thaw (by omega) (by omega) T2.out 1; have HB2 := (Below.drew HB).trans (H2.out.below w.heap.size (by omega) (by omega)))
  all_goals go_wp2
  all_goals exact bodyPost_ret (v := .tuple #[.agg #[.int .i64 eb, .string et], .agg #[.int .i64 eb2, .string et2]]) (by simp [results, Try.results24, go_sem, *]) rfl ⟨_, _, _, _, rfl, het, heb1, heb2, heb3, heb4, het2, (by repeat (first | with_reducible exact Below.refl _ _ | with_reducible assumption | with_reducible refine Below.alloc ?_ ?_ _ | with_reducible refine Below.setCell ?_ ?_ _ | with_reducible refine Below.drew ?_ | with_reducible refine below_drewN ?_ _ | with_reducible refine Below.trans ?_ (Below.mono (by assumption) ?_) | omega | ((repeat (first | rw [World.size_alloc] | rw [size_setCell] | rw [size_drewN] | rw [size_drew])); omega) | exact Nat.le_refl _ | (dsimp only; omega) | (simp [World.setCell]; omega)))⟩

end Go.Proofs.Ytfakaeddkhajbaa
