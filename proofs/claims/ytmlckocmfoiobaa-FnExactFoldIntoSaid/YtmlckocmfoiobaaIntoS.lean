/-
  CONTRACTS: FoldInto of the reference.
-/
import Derived.Test.YtmlckocmfoiobaaUnfS
namespace Go.Proofs.Ytmlckocmfoiobaa
open Go.RowKit

theorem into_bad {l : List Int} {k : Int} {t : ByteArray} (h : (Pl.outlineB l && Pl.foldB k t) = false) : Pl.intoOut l k t = [] ∧ Pl.intoOk l k t = false := by
  have h2 : Pl.intoOk l k t = false := by unfold Pl.intoOk; rw [h, Bool.false_and]
  exact ⟨by simp [Pl.intoOut, h2], h2⟩
theorem into_on {l : List Int} {k : Int} {t : ByteArray} (h : Pl.keyOn (Pl.lastI l) k = true) : Pl.intoOut l k t = [] ∧ Pl.intoOk l k t = false := by
  have h2 : Pl.intoOk l k t = false := by unfold Pl.intoOk; rw [h, Bool.not_true, Bool.and_false]
  exact ⟨by simp [Pl.intoOut, h2], h2⟩
theorem into_off {l : List Int} {k : Int} {t : ByteArray} (h1 : Pl.outlineB l = true) (h2 : Pl.foldB k t = true) (h : Pl.keyOn (Pl.lastI l) k = false) : Pl.intoOut l k t = Pl.withLast l (Pl.lastI l + 2 ^ k.toNat) ∧ Pl.intoOk l k t = true := by
  have h2 : Pl.intoOk l k t = true := by unfold Pl.intoOk; rw [h1, h2, h]; rfl
  exact ⟨by simp [Pl.intoOut, h2], h2⟩

theorem madeW (W : World) : (W.drew.alloc (.cells #[] 3)).ownsRow W.heap.size 3 1 (.slice (some ⟨W.heap.size, 0, none⟩) 0 0) 0 [] :=
  made0 (w := W) (W := W.drew) (Nat.le_refl _)
theorem madeW2 (W : World) (o : Obj) : ((W.drew.alloc o).alloc (.cells #[] 3)).ownsRow W.heap.size 3 1 (.slice (some ⟨W.heap.size + 1, 0, none⟩) 0 0) 0 [] := by
  have h := made0 (w := W) (W := W.drew.alloc o) (by rw [World.size_alloc, size_drew]; omega)
  rwa [World.size_alloc, size_drew] at h
theorem cellW2 (W : World) (o : Obj) (x : Int) : ((W.drew.alloc o).alloc (.cells #[.int .i64 x] 3)).cell? ⟨W.heap.size + 1, 0, none⟩ = some (.int .i64 x) :=
  Joins.cell_alloc_mark_at _ #[.int .i64 x] _ _ _ 0 (by rw [World.size_alloc, size_drew])
theorem cellW1 (W : World) (o : Obj) (x : Int) : ((W.drew.alloc (.cells #[.int .i64 x] 3)).alloc o).cell? ⟨W.heap.size, 0, none⟩ = some (.int .i64 x) := by
  have h : (W.drew.alloc (.cells #[.int .i64 x] 3)).cell? ⟨W.heap.size, 0, none⟩ = some (.int .i64 x) :=
    Joins.cell_alloc_mark_at _ #[.int .i64 x] _ _ _ 0 (by rw [size_drew])
  exact keepc (Joins.below_alloc1 _ _) h

set_option maxRecDepth 20000 in
set_option maxHeartbeats 1600000 in
theorem specFoldInto_any (v : Value) (l : List Int) (k : Int) (t : ByteArray) (w : World) (hr : Rows w v l.length 1 (ints l)) (hl : l.length ≤ 1048576) (ht : t.size ≤ maxLen) :
    Calls Try.prog 42 #[v, .agg #[.int .i64 k, .string t]] w (RetRowB 3 1 w.heap.size w (Pl.intoOut l k t).length (ints (Pl.intoOut l k t)) (Pl.intoOk l k t)) := by
  have HB := Lib.hid (Joins.below_alloc1 w (.cells #[.int .i64 k, .string t] 65))
  have HR := Lib.hid (hr.keep HB.out)
  have ca : (w.alloc (.cells #[.int .i64 k, .string t] 65)).cell? ⟨w.heap.size, 0, none⟩ = some (.int .i64 k) := by simp
  have cb : (w.alloc (.cells #[.int .i64 k, .string t] 65)).cell? ⟨w.heap.size, 1, none⟩ = some (.string t) := by simp
  have hr2 := Lib.hid hr
  clear hr
  cases h1 : Pl.outlineB l
  · have E := Lib.hid (into_bad (k := k) (t := t) (by rw [h1]; rfl))
    rw [E.out.1, E.out.2]
    clear E
    go_enter Try.func42, Try.ntmps42
    go_wp2_with (go_at_call 78; refine (l4Good_any _ l _ HR.out hl).mono ?_; rintro e w1 ⟨he, rfl⟩; rw [h1] at he; subst he)
    go_ret2
    exact ⟨_, rfl, World.ownsRow_nil _ _ _ _, HB.out⟩
  cases h2 : Pl.foldB k t
  · have E := Lib.hid (into_bad (l := l) (k := k) (t := t) (by rw [h1, h2]; rfl))
    rw [E.out.1, E.out.2]
    clear E
    go_enter Try.func42, Try.ntmps42
    go_wp2_with (first
      | (go_at_call 78; refine (l4Good_any _ l _ HR.out hl).mono ?_; rintro e w1 ⟨he, rfl⟩; rw [h1] at he; subst he)
      | (go_at_call 75; refine (l10Fold_any _ _ _ ht).mono ?_; rintro e w2 ⟨he, hb2⟩; rw [h2] at he; subst he))
    go_ret2
    exact ⟨_, rfl, World.ownsRow_nil _ _ _ _, HB.out.trans (hb2.mono HB.out.size)⟩
  have z1 := Pl.outline_len h1
  obtain ⟨n, hn, hn1, hn2⟩ := Pl.stroke_nat (Pl.outline_last h1)
  obtain ⟨j, rfl, hj1, hj2⟩ := Pl.fold_key h2
  have HR2 := hr2.out
  obtain ⟨a, cap, rfl, hcap, _, _, _, hcells⟩ := HR2
  obtain ⟨b, off, rfl, hlast0⟩ := last_cell hcells z1.1
  have hbl : b < w.heap.size := World.block_lt_of_cell? _ _ hlast0
  rw [hn] at hlast0
  have hlast := keepc HB.out hlast0
  have HC := Lib.hid (hcells.keep HB.out)
  have hw := wrap_powI hj2
  have hp := pow_bd hj2
  have hp1 := hp.1; have hp2 := hp.2
  clear hlast0 hcells hp hr2
  have hsh := and_bitI n j hn2 hj2
  cases hq : n.testBit j
  · have q1 : (bits .and .i64 (n : Int) (2 ^ j) == 0) = true := by rw [hsh, hq]; rfl
    have q2 := nT q1
    have E := Lib.hid (into_off h1 h2 (by rw [hn]; simpa [Pl.keyOn] using hq))
    have F := Lib.hid (show Pl.lastI l + 2 ^ ((j : Int)).toNat = (n : Int) + 2 ^ j by rw [hn]; rfl)
    rw [E.out.1, E.out.2, F.out, Pl.withLast_length _ _ z1.1]
    clear E F hsh
    have i4 : IntKind.i64.wrap ((n : Int) + 2 ^ j) = (n : Int) + 2 ^ j := wrapI (by omega) (by omega)
    obtain ⟨m, hm⟩ : ∃ m, l.length = m + 1 := ⟨l.length - 1, by omega⟩
    have hm1 : l.length - 1 = m := by omega
    rw [hm1] at hlast
    have HQ0 := HR.out
    rw [hm] at hcap HQ0 ⊢
    have HQ := Lib.hid HQ0
    clear HQ0 HR
    have i1 : (0 : Int) ≤ (m : Int) := by omega
    have i2 : (m : Int) < (m : Int) + 1 := by omega
    have i3 : IntKind.i64.wrap (m : Int) = (m : Int) := Pl.wrap_nat _ (by omega)
    have i5 : (m : Int) ≤ (cap : Int) := by omega
    have htk : (l.take m).length = m := by simp; omega
    go_enter Try.func42, Try.ntmps42
    go_wp2_with (first
      | (go_at_call 78; refine (l4Good_any _ l _ (by rw [hm]; exact HQ.out) hl).mono ?_; rintro e w1 ⟨he, rfl⟩; rw [h1] at he; subst he)
      | (go_at_call 75; refine (l10Fold_any _ _ _ ht).mono ?_; rintro e w2 ⟨he, hb2⟩; rw [h2] at he; subst he; have ca2 := keepc hb2 ca; have cb2 := keepc hb2 cb; have hlast2 := keepc hb2 hlast))
    have HC2 := Lib.hid (HC.out.keep hb2)
    have HB2 := Lib.hid (HB.out.trans (hb2.mono HB.out.size))
    have hbl2 : b < w2.heap.size := World.block_lt_of_cell? _ _ hlast2
    clear HC HQ HB hb2 ca cb hlast ca2 cb2
    go_region_held3 (fun w' => w'.cell? ⟨b, off + m, none⟩ = some (.int .i64 (n : Int))) (first | exact e2 | exact e1 | exact hlast2 | go_keep) (first
      | (have hx := hown1; refine step_app_int rfl (.tmp 35) (.tmp 43) rfl w2.heap.size _ m (ints (l.take m)) rfl (by first | exact hown1 | exact hown1.alloc _) ⟨_, 0, none⟩ 1 1 [(n : Int) + 2 ^ j] rfl rfl (by first | exact one_news _ _ | exact cell_news (e3 _ (cellW2 _ _ _) (fun h => absurd (show w2.heap.size + 1 = w2.heap.size from Option.some.inj h) (by omega))) | exact cell_news (e4 _ (cellW1 _ _ _) (fun h => absurd (show w2.heap.size = w2.heap.size + 1 from Option.some.inj h) (by omega)))) (by omega) (by have := hg1.size; simp at this ⊢; omega) ?_; intro v4 w4 hown2 hg2; have e2 : w4.cell? ⟨b, off + m, none⟩ = some (.int .i64 (n : Int)) := hg2.cell (by first | exact e1 | exact keepc (Joins.below_alloc1 _ _) e1) (fun h => absurd (hown1.lt b h.symm).1 (by omega)); have B4 := Lib.hid (grown2 hg2 (by first | exact B1.out | exact B1.out.alloc B1.out.size _) (fun k hk => (hown1.lt k hk).1)))
      | (refine step_app_int rfl (.tmp 30) (.tmp 34) rfl w2.heap.size _ 0 [] rfl (by first | exact madeW _ | exact (madeW _).alloc _ | exact madeW2 _ _) ⟨b, off, none⟩ m cap (l.take m) rfl htk (by exact news_at HC2.out m (by repeat (first | with_reducible exact Below.refl _ _ | with_reducible assumption | with_reducible refine Below.alloc ?_ ?_ _ | with_reducible refine Below.setCell ?_ ?_ _ | with_reducible refine Below.drew ?_ | with_reducible refine below_drewN ?_ _ | with_reducible refine Below.trans ?_ (Below.mono (by assumption) ?_) | omega | ((repeat (first | rw [World.size_alloc] | rw [size_setCell] | rw [size_drewN] | rw [size_drew])); omega) | exact Nat.le_refl _ | (dsimp only; omega) | (simp [World.setCell]; omega)))) (by omega) (by first | (simp; done) | (simp; omega)) ?_; intro v3 w3 hown1 hg1; rw [Nat.zero_add, List.nil_append] at hown1; have e1 : w3.cell? ⟨b, off + m, none⟩ = some (.int .i64 (n : Int)) := hg1.cell (keepc (by repeat (first | with_reducible exact Below.refl _ _ | with_reducible assumption | with_reducible refine Below.alloc ?_ ?_ _ | with_reducible refine Below.setCell ?_ ?_ _ | with_reducible refine Below.drew ?_ | with_reducible refine below_drewN ?_ _ | with_reducible refine Below.trans ?_ (Below.mono (by assumption) ?_) | omega | ((repeat (first | rw [World.size_alloc] | rw [size_setCell] | rw [size_drewN] | rw [size_drew])); omega) | exact Nat.le_refl _ | (dsimp only; omega) | (simp [World.setCell]; omega))) hlast2) (fun h => by first | exact absurd (show b = w2.heap.size from Option.some.inj h) (by omega) | exact absurd (show b = w2.heap.size + 1 from Option.some.inj h) (by omega)); have e3 := fun (u : Value) h => hg1.cell (a := ⟨w2.heap.size + 1, 0, none⟩) (v := u) h; have e4 := fun (u : Value) h => hg1.cell (a := ⟨w2.heap.size, 0, none⟩) (v := u) h; have B1 := Lib.hid (grown2 (w := w2) hg1 (by repeat (first | with_reducible exact Below.refl _ _ | with_reducible assumption | with_reducible refine Below.alloc ?_ ?_ _ | with_reducible refine Below.setCell ?_ ?_ _ | with_reducible refine Below.drew ?_ | with_reducible refine below_drewN ?_ _ | with_reducible refine Below.trans ?_ (Below.mono (by assumption) ?_) | omega | ((repeat (first | rw [World.size_alloc] | rw [size_setCell] | rw [size_drewN] | rw [size_drew])); omega) | exact Nat.le_refl _ | (dsimp only; omega) | (simp [World.setCell]; omega))) (fun k hk => by have h9 := Option.some.inj hk; subst h9; first | exact Nat.le_refl _ | exact Nat.le_succ _))))
    all_goals go_wp2_with fail
    all_goals go_ret2
    all_goals
      refine ⟨_, rfl, ?_, HB2.out.trans (B4.out.mono HB2.out.size)⟩
      have h := own_base hown2 HB2.out.size
      rw [← ints_snoc] at h
      unfold Pl.withLast
      rw [hm1]
      exact h
  · have q1 : (bits .and .i64 (n : Int) (2 ^ j) == 0) = false := by rw [hsh, hq]; rfl
    have q2 := nF q1
    have E := Lib.hid (into_on (l := l) (k := (j : Int)) (t := t) (by rw [hn]; simpa [Pl.keyOn] using hq))
    rw [E.out.1, E.out.2]
    clear E hsh
    go_enter Try.func42, Try.ntmps42
    go_wp2_with (first
      | (go_at_call 78; refine (l4Good_any _ l _ HR.out hl).mono ?_; rintro e w1 ⟨he, rfl⟩; rw [h1] at he; subst he)
      | (go_at_call 75; refine (l10Fold_any _ _ _ ht).mono ?_; rintro e w2 ⟨he, hb2⟩; rw [h2] at he; subst he; have ca2 := keepc hb2 ca; have cb2 := keepc hb2 cb; have hlast2 := keepc hb2 hlast))
    all_goals go_ret2
    all_goals exact ⟨_, rfl, World.ownsRow_nil _ _ _ _, HB.out.trans (hb2.mono HB.out.size)⟩

end Go.Proofs.Ytmlckocmfoiobaa
