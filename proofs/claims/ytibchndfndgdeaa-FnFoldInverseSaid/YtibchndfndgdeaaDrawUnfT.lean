/-
  CONTRACTS: DrawUnfold, DrawFoldInto: of what is drawn only bounds are told.
-/
import Derived.Test.YtibchndfndgdeaaDrawInto
namespace Go.Proofs.Ytibchndfndgdeaa
open Go.RowKit

/-- an outline and a fold, made in new memory -/
def MadeOF (w : World) (e : Ending) (w' : World) : Prop := ∃ (lv : Value) (l : List Int) (k : Int) (t : ByteArray), e = .returned (.tuple #[lv, .agg #[.int .i64 k, .string t]]) ∧ w'.ownsRow w.heap.size 3 1 lv l.length (ints l) ∧ l.length ≤ 100 ∧ t.size ≤ 9 ∧ Below w.heap.size w w'

theorem own_ne {w : World} {b R : Nat} {E : TypeId} {s n : Nat} {v : Value} {xs : List Value} (h : w.ownsRow b E s v n xs) (hR : R < b) : v.ownBlock = none ∨ v.ownBlock ≠ some R := by
  cases hv : v.ownBlock with
  | none => exact .inl rfl
  | some k => exact .inr (fun e => by have := (h.lt k hv).1; injection e with e; omega)

set_option maxRecDepth 20000 in
set_option maxHeartbeats 1600000 in
theorem DrawUnfold_any (v : Value) (w : World) (h : Code8 w v) : Calls Try.prog 11 #[v] w (MadeOF w) := by
  obtain ⟨l, h1, h2⟩ := h.alloc (.cells #[.int .i64 0, .string ⟨#[]⟩] 26)
  clear h
  have h3 := h2
  obtain ⟨a, cap, rfl, _, _, _, _, _⟩ := h3
  have HD := Lib.hid (Read.refl (Cur.newAt (World.size_alloc w (.cells #[.int .i64 0, .string ⟨#[]⟩] 26)) rfl h1 h2 41))
  have hne : w.heap.size ≠ w.heap.size + 1 := by omega
  have C := Lib.hid (show ((w.alloc (.cells #[.int .i64 0, .string ⟨#[]⟩] 26)).alloc (.cells #[.slice a l.length cap, .int .i64 0, .int .u64 0] 41)).cell? ⟨w.heap.size, 0, none⟩ = some (.int .i64 0) ∧ ((w.alloc (.cells #[.int .i64 0, .string ⟨#[]⟩] 26)).alloc (.cells #[.slice a l.length cap, .int .i64 0, .int .u64 0] 41)).cell? ⟨w.heap.size, 1, none⟩ = some (.string ⟨#[]⟩) ∧ thawed ((w.alloc (.cells #[.int .i64 0, .string ⟨#[]⟩] 26)).alloc (.cells #[.slice a l.length cap, .int .i64 0, .int .u64 0] 41)) w.heap.size from ⟨by simp [go_sem], by simp [go_sem], fun i => by simp [go_sem]⟩)
  have HB := Lib.hid (show Below w.heap.size w ((w.alloc (.cells #[.int .i64 0, .string ⟨#[]⟩] 26)).alloc (.cells #[.slice a l.length cap, .int .i64 0, .int .u64 0] 41)) from (by repeat (first | with_reducible exact Below.refl _ _ | with_reducible assumption | with_reducible refine Below.alloc ?_ ?_ _ | with_reducible refine Below.setCell ?_ ?_ _ | with_reducible refine Below.drew ?_ | with_reducible refine below_drewN ?_ _ | with_reducible refine Below.trans ?_ (Below.mono (by assumption) ?_) | omega | ((repeat (first | rw [World.size_alloc] | rw [size_setCell] | rw [size_drewN] | rw [size_drew])); omega) | exact Nat.le_refl _ | (dsimp only; omega) | (simp [World.setCell]; omega))))
  have HZ := Lib.hid (show ((w.alloc (.cells #[.int .i64 0, .string ⟨#[]⟩] 26)).alloc (.cells #[.slice a l.length cap, .int .i64 0, .int .u64 0] 41)).heap.size = w.heap.size + 2 by simp only [World.size_alloc])
  clear h1 h2
  generalize hW : (w.alloc (.cells #[.int .i64 0, .string ⟨#[]⟩] 26)).alloc (.cells #[.slice a l.length cap, .int .i64 0, .int .u64 0] 41) = W at HD C HB HZ
  have HW := Lib.hid hW; clear hW
  go_enter Try.func11, Try.ntmps11
  go_upto_region 2 with fail
  rw [HW.out]
  clear HW
  go_upto_region 3 with (go_at_call 19; refine (l10DrawFold_any HD.out (by omega)).mono ?_; rintro e w1 ⟨⟨k, t, rfl, ht⟩, hd⟩; have H1 := Lib.hid hd; clear hd)
  have H2 := Lib.hid (H1.out.alloc (.cells #[.int .i64 k, .string t] 26))
  have d0 : (w1.alloc (.cells #[.int .i64 k, .string t] 26)).cell? ⟨w1.heap.size, 0, none⟩ = some (.int .i64 k) := by rw [World.cell?_alloc_mark]; rfl
  have d1 : (w1.alloc (.cells #[.int .i64 k, .string t] 26)).cell? ⟨w1.heap.size, 1, none⟩ = some (.string t) := by rw [World.cell?_alloc_mark]; rfl
  have hs1 := H1.out.2.size
  rw [HZ.out] at hs1
  have hs2 := H2.out.2.size
  rw [HZ.out] at hs2
  generalize w1.alloc (.cells #[.int .i64 k, .string t] 26) = w2 at H2 d0 d1 hs2 ⊢
  have hnb : w1.heap.size ≠ w.heap.size + 1 := by omega
  generalize w1.heap.size = b5 at hs1 d0 d1 hnb ⊢
  clear H1
  refine wp_region_last (n := 6) (S := fun w' => w'.cell? ⟨b5, 0, none⟩ = some (.int .i64 k) ∧ w'.cell? ⟨b5, 1, none⟩ = some (.string t)) (by kernel_rfl) (by kernel_rfl) ⟨d0, d1⟩ (fun hHeld => ?_)
  refine takeH 0 11 (.pointer (some ⟨w.heap.size + 1, 0, none⟩)) rfl (by kernel_rfl) (by kernel_rfl) (by kernel_rfl) (by kernel_rfl) (fun _ _ _ _ h => h) hHeld (Or.inl ⟨rfl, fun w' hw => by obtain ⟨hw0, hw1⟩ := hw; first | rfl | (go_simp; done)⟩) ?_
  try simp only [Act.put, List.setIfInBounds_toArray, List.set_cons_zero, List.set_cons_succ]
  refine takeH 1 12 (.pointer (some ⟨w.heap.size + 1, 0, none⟩)) rfl (by kernel_rfl) (by kernel_rfl) (by kernel_rfl) (by kernel_rfl) (fun _ _ _ _ h => h) hHeld (Or.inl ⟨rfl, fun w' hw => by obtain ⟨hw0, hw1⟩ := hw; first | rfl | (go_simp; done)⟩) ?_
  try simp only [Act.put, List.setIfInBounds_toArray, List.set_cons_zero, List.set_cons_succ]
  refine takeH 4 15 (.agg #[.int .i64 k, .string t]) rfl (by kernel_rfl) (by kernel_rfl) (by kernel_rfl) (by kernel_rfl) (fun _ _ _ _ h => h) hHeld (Or.inl ⟨rfl, fun w' hw => by obtain ⟨hw0, hw1⟩ := hw; first | rfl | (go_simp; done)⟩) ?_
  try simp only [Act.put, List.setIfInBounds_toArray, List.set_cons_zero, List.set_cons_succ]
  refine wpAnyH_ready (rs := [2]) (by kernel_rfl) (by simp) ?_
  refine AllReadyH.cons (o := _) rfl (fun K hK => ?_) AllReadyH.nil
  go_simp
  (go_at_call 21; refine (dictionary_any (w := w2.drew) (Read.refl (show Cur _ _ _ _ w2.drew from H2.out.1)) (by omega)).mono ?_; rintro e w3 ⟨⟨dv, L, rfl, hO, hL1, hL2, hSm⟩, hd⟩)
  have e3 : w3.cell? ⟨b5, 0, none⟩ = some (.int .i64 k) ∧ w3.cell? ⟨b5, 1, none⟩ = some (.string t) := ⟨hd.cellK hnb (show w2.drew.cell? _ = _ from d0), hd.cellK hnb (show w2.drew.cell? _ = _ from d1)⟩
  have H3 := Lib.hid ((show Read _ _ _ _ W w2.drew from H2.out.to 1).trans hd)
  have O3 := Lib.hid hO
  clear hd hO
  go_wp2_with fail
  refine hK.out _ _ e3 (fun hHeld2 => ?_)
  clear hK K hHeld
  have hHeld := hHeld2
  clear hHeld2
  try simp only [Act.put, List.setIfInBounds_toArray, List.set_cons_zero, List.set_cons_succ]
  refine wpAnyH_ready (rs := [3]) (by kernel_rfl) (by simp) ?_
  refine AllReadyH.cons (o := _) rfl (fun K hK => ?_) AllReadyH.nil
  go_simp
  (go_at_call 20; refine (l10DrawOutline_any w2.drew.heap.size dv L (Read.refl H3.out.1) (by omega) O3.out (show w.heap.size + 1 < w2.heap.size by omega) hL1 (by omega) (fun q hq => by have := hSm q hq; omega)).mono ?_; rintro e w4 ⟨⟨lv, lo, rfl, hown, hlo⟩, hd⟩)
  obtain ⟨a4, c4, rfl⟩ := row_formO hown
  have e4 : w4.cell? ⟨b5, 0, none⟩ = some (.int .i64 k) ∧ w4.cell? ⟨b5, 1, none⟩ = some (.string t) := ⟨hd.cellK hnb e3.1, hd.cellK hnb e3.2⟩
  have hs3 := H3.out.2.size
  rw [HZ.out] at hs3
  have H4 := Lib.hid (H3.out.trans hd)
  have O4 := Lib.hid (own_lower2 (b' := w.heap.size + 2) hown hs3)
  clear hd hown
  go_wp2_with fail
  refine hK.out _ _ e4 (fun hHeld2 => ?_)
  clear hK K hHeld
  have hHeld := hHeld2
  clear hHeld2
  try simp only [Act.put, List.setIfInBounds_toArray, List.set_cons_zero, List.set_cons_succ]
  refine takeH 5 2 (.slice a4 lo.length c4) rfl (by kernel_rfl) (by kernel_rfl) (by kernel_rfl) (by kernel_rfl) (fun _ _ _ _ h => h) hHeld (Or.inl ⟨rfl, fun w' hw => by obtain ⟨hw0, hw1⟩ := hw; first | rfl | (go_simp; done)⟩) ?_
  try simp only [Act.put, List.setIfInBounds_toArray, List.set_cons_zero, List.set_cons_succ]
  have hlt : w.heap.size < W.heap.size := by rw [HZ.out]; omega
  have c0 := H4.out.cellK hne C.out.1
  have c1 := H4.out.cellK hne C.out.2.1
  have f0 := H4.out.thaw hne hlt C.out.2.2 0
  have f1 := H4.out.thaw hne hlt C.out.2.2 1
  refine wpAnyH_done (by kernel_rfl) ?_ _
  refine thenLast_normal (wpOp_step (o := _) rfl (fun K hK => ?_))
  go_simp
  refine hK _ _ ?_
  clear hK hHeld
  go_wp2
  have HB2 := HB.out.trans (H4.out.below w.heap.size (by omega) (by omega))
  refine bodyPost_ret (v := .tuple #[.slice a4 lo.length c4, .agg #[.int .i64 k, .string t]]) (by simp [results, Try.results11, go_sem, *]) rfl ⟨_, lo, _, _, rfl, ?_, hlo, ht, (by repeat (first | with_reducible exact Below.refl _ _ | with_reducible assumption | with_reducible refine Below.alloc ?_ ?_ _ | with_reducible refine Below.setCell ?_ ?_ _ | with_reducible refine Below.drew ?_ | with_reducible refine below_drewN ?_ _ | with_reducible refine Below.trans ?_ (Below.mono (by assumption) ?_) | omega | ((repeat (first | rw [World.size_alloc] | rw [size_setCell] | rw [size_drewN] | rw [size_drew])); omega) | exact Nat.le_refl _ | (dsimp only; omega) | (simp [World.setCell]; omega)))⟩
  exact own_lower2 ((own_lower2 O4.out (b' := w.heap.size + 1) (by omega)).kept (grownBy_trans (grown_set _ _ _ _) (grown_set _ _ _ _)) (own_ne O4.out (by omega))) (Nat.le_add_right w.heap.size 1)

set_option maxHeartbeats 1600000 in
theorem DrawFoldInto_any (v : Value) (w : World) (h : Code8 w v) : Calls Try.prog 5 #[v] w (MadeOF w) := by
  have h2 := h.alloc (.cells #[.int .i64 0, .string ⟨#[]⟩] 26)
  clear h
  go_enter Try.func5, Try.ntmps5
  go_wp2_with (go_at_call 11; refine (DrawUnfold_any _ _ h2).mono ?_; rintro e w' ⟨lv, l, k, t, rfl, hown, hl, ht, hb⟩; have hc0 : w'.cell? ⟨w.heap.size, 0, none⟩ = some (.int .i64 0) := keepE hb (by simp [go_sem]); have hc1 : w'.cell? ⟨w.heap.size, 1, none⟩ = some (.string ⟨#[]⟩) := keepE hb (by simp [go_sem]); have hf := (bcell hb).2; have hf0 : w'.frozen? ⟨w.heap.size, 0, none⟩ = false := (hf _ _ (by rw [World.size_alloc]; omega)).trans (by simp [go_sem]); have hf1 : w'.frozen? ⟨w.heap.size, 1, none⟩ = false := (hf _ _ (by rw [World.size_alloc]; omega)).trans (by simp [go_sem]); have HO := Lib.hid (own_lower2 (b' := w.heap.size + 1) hown (Nat.le_of_eq (World.size_alloc _ _).symm)); clear hown)
  refine bodyPost_ret (v := .tuple #[lv, .agg #[.int .i64 k, .string t]]) (by simp [results, Try.results5, go_sem, *]) rfl ⟨_, l, _, _, rfl, own_set2 HO.out 0 1 _ _, hl, ht, (by repeat (first | with_reducible exact Below.refl _ _ | with_reducible assumption | with_reducible refine Below.alloc ?_ ?_ _ | with_reducible refine Below.setCell ?_ ?_ _ | with_reducible refine Below.drew ?_ | with_reducible refine below_drewN ?_ _ | with_reducible refine Below.trans ?_ (Below.mono (by assumption) ?_) | omega | ((repeat (first | rw [World.size_alloc] | rw [size_setCell] | rw [size_drewN] | rw [size_drew])); omega) | exact Nat.le_refl _ | (dsimp only; omega) | (simp [World.setCell]; omega)))⟩

end Go.Proofs.Ytibchndfndgdeaa
