/-
  CONTRACTS: Unfold of the reference.
-/
import Derived.Test.YtdidgaibgkdjoaaGreatDoorBasB
namespace Go.Proofs.YtdidgaibgkdjoaaGreatDoor
open Go.RowKit

theorem step_app_int {ops : Array Oper} {o : Oper} {a : Act} {w : World} {K : Act → World → Prop} {Q : Exit → Act → World → Prop} {E : Prop} (hgd : o.guard = none) (s x : Operand)
    (ho : o.op = .call { callee := .builtin .append, args := #[s, x], argTypes := #[36, 36] })
    (base : Nat) (v : Value) (n : Nat) (xs : List Value) (hs : a.eval s = v) (hown : w.ownsRow base 3 1 v n xs)
    (ad : Addr) (m c : Nat) (l : List Int) (hx : a.eval x = .slice (some ad) m c) (hl : l.length = m) (hnews : ∀ j u, (ints l)[j]? = some u → w.cell? (ad.add j) = some u)
    (hnm : n + m ≤ 4194304) (hbase : base ≤ w.heap.size)
    (h : ∀ v' w', w'.ownsRow base 3 1 v' (n + m) (xs ++ ints l) → w.grownBy w' v.ownBlock → K (a.put o.dst v') w') : if Region.wanted o (yielded ops a.tmps) = true then Oper.wp Tryz.prog o a w K Q else E := by
  have hw : Region.wanted o (yielded ops a.tmps) = true := by simp [Region.wanted, hgd]
  rw [if_pos hw]
  obtain ⟨i0, hi, hz0, hz1, hz2⟩ := info_parts Tryz.infoInt
  exact wp_append_own w s x 36 ho base 3 i0 (.int .i64 0) 1 8 Tryz.underlying36 hi hz0 hz1 hz2 rfl (by decide) v n xs hs hown ad m c (ints l) hx (by rw [ints_length, hl, Nat.mul_one]) hnews (ints_one l)
    (by unfold maxLen; omega) (by omega) hbase (fun v' w' h1 h2 _ => h v' w' h1 h2)

theorem and_bitI (n j : Nat) (h : n < 8388608) (hj : j ≤ 22) : (bits .and .i64 (n : Int) ((2 : Int) ^ j) == 0) = !n.testBit j := by
  have e := Pl.and_bit n j h hj
  have e2 : ((2 ^ j : Nat) : Int) = (2 : Int) ^ j := by simp
  rw [e2] at e
  rw [e]
  have hp := (pow_bd hj).1
  cases hq : n.testBit j
  · rfl
  · rw [if_pos rfl]
    have : ¬ ((2 : Int) ^ j) = 0 := by omega
    simpa using this
theorem news_at {w w' : World} {b off : Nat} {l : List Int} (hc : CellsAt w (some ⟨b, off, none⟩) (ints l)) (n : Nat) (hb : Below w.heap.size w w') : ∀ j u, (ints (l.take n))[j]? = some u → w'.cell? ((⟨b, off, none⟩ : Addr).add j) = some u := by
  have h := ((hc.keep hb).pre n)
  rw [ints, ← List.map_take] at h
  exact h.news
theorem made0 {w W : World} (h : w.heap.size ≤ W.heap.size) : (W.alloc (.cells #[] 3)).ownsRow w.heap.size 3 1 (.slice (some ⟨W.heap.size, 0, none⟩) 0 0) 0 [] :=
  World.ownsRow_made W #[] 0 h (by unfold maxLen; omega) rfl

theorem made1 (w : World) (o : Obj) : ((w.alloc o).alloc (.cells #[] 3)).ownsRow w.heap.size 3 1 (.slice (some ⟨w.heap.size + 1, 0, none⟩) 0 0) 0 [] := by
  have h := made0 (w := w) (W := w.alloc o) (by simp)
  rwa [World.size_alloc] at h
theorem madeA (w : World) (o : Obj) : (((w.alloc o).drew).alloc (.cells #[] 3)).ownsRow w.heap.size 3 1 (.slice (some ⟨w.heap.size + 1, 0, none⟩) 0 0) 0 [] := by
  have h := made0 (w := w) (W := (w.alloc o).drew) (by simp)
  rwa [size_drew, World.size_alloc] at h
theorem madeC (w : World) (o o2 : Obj) : ((((w.alloc o).drew).alloc o2).alloc (.cells #[] 3)).ownsRow w.heap.size 3 1 (.slice (some ⟨w.heap.size + 1 + 1, 0, none⟩) 0 0) 0 [] := by
  have h := made0 (w := w) (W := ((w.alloc o).drew).alloc o2) (by simp; omega)
  rwa [World.size_alloc, size_drew, World.size_alloc] at h
theorem cell_news {w : World} {b : Nat} {x : Int} (h : w.cell? ⟨b, 0, none⟩ = some (.int .i64 x)) : ∀ j u, (ints [x])[j]? = some u → w.cell? ((⟨b, 0, none⟩ : Addr).add j) = some u := by
  intro j u hj
  have hj0 : j = 0 := by
    cases j with
    | zero => rfl
    | succ j => simp [ints] at hj
  subst hj0
  rw [Addr.add_lit, h]
  simpa [ints] using hj
theorem cellB (w : World) (o o2 : Obj) (x : Int) : ((((w.alloc o).drew).alloc o2).alloc (.cells #[.int .i64 x] 3)).cell? ⟨w.heap.size + 1 + 1, 0, none⟩ = some (.int .i64 x) :=
  Joins.cell_alloc_mark_at _ #[.int .i64 x] _ _ _ 0 (by rw [World.size_alloc, size_drew, World.size_alloc])
theorem cellC (w : World) (o o2 : Obj) (x : Int) : ((((w.alloc o).drew).alloc (.cells #[.int .i64 x] 3)).alloc o2).cell? ⟨w.heap.size + 1, 0, none⟩ = some (.int .i64 x) := by
  have h : (((w.alloc o).drew).alloc (.cells #[.int .i64 x] 3)).cell? ⟨w.heap.size + 1, 0, none⟩ = some (.int .i64 x) :=
    Joins.cell_alloc_mark_at _ #[.int .i64 x] _ _ _ 0 (by rw [size_drew, World.size_alloc])
  exact keepc (Joins.below_alloc1 _ _) h
theorem row_formI {w : World} {base size n : Nat} {e : TypeId} {v : Value} {xs : List Value} (h : w.ownsRow base e size v n xs) : ∃ ao co, v = .slice ao n co := by
  rcases Joins.ownsRow_forms h with ⟨h1, h2⟩ | ⟨g, c, h1⟩
  · exact ⟨none, 0, by rw [h1, h2]⟩
  · exact ⟨_, c, h1⟩
theorem ret_sliceb {v : Value} {x y : Bool} (h : x = y) : Ending.returned (.tuple #[v, .bool x]) = .returned (.tuple #[v, .bool y]) := by rw [h]
theorem grown2 {w W w1 : World} {row : Option Nat} (hg : W.grownBy w1 row) (h : Below w.heap.size w W) (hk : ∀ k, row = some k → w.heap.size ≤ k) : Below w.heap.size w w1 := h.grown hg h.size hk
theorem wrapI {x : Int} (h0 : -9223372036854775808 ≤ x) (h1 : x < 9223372036854775808) : IntKind.i64.wrap x = x := by
  simp [IntKind.wrap, IntKind.bits, IntKind.signed]; omega

set_option maxRecDepth 20000 in
set_option maxHeartbeats 1600000 in
theorem l10Unfold_any (b off cap : Nat) (l : List Int) (k : Int) (t : ByteArray) (w : World) (hc : CellsAt w (some ⟨b, off, none⟩) (ints l)) (hcap : l.length ≤ cap) (h1 : Pl.outlineB l = true) (h2 : Pl.foldB k t = true) :
    Calls Tryz.prog 73 #[.slice (some ⟨b, off, none⟩) l.length cap, .agg #[.int .i64 k, .string t]] w (RetRow 3 1 w.heap.size w (Pl.un l k).length (ints (Pl.un l k))) := by
  have z1 := Pl.outline_len h1
  obtain ⟨n, hn, hn1, hn2⟩ := Pl.stroke_nat (Pl.outline_last h1)
  obtain ⟨j, rfl, hj1, hj2⟩ := Pl.fold_key h2
  have HB := Lib.hid (Joins.below_alloc1 w (.cells #[.int .i64 (j : Int), .string t] 64))
  have HC := Lib.hid (hc.keep HB.out)
  obtain ⟨b', off', he, hlast0⟩ := last_cell hc z1.1
  cases he
  have hbl : b < w.heap.size := World.block_lt_of_cell? _ _ hlast0
  have hlast := keepc HB.out hlast0
  clear hlast0
  rw [hn] at hlast
  have hw := wrap_powI hj2
  have hp := pow_bd hj2
  have hp1 := hp.1; have hp2 := hp.2
  clear hc h1 h2 hp
  have hsh := and_bitI n j hn2 hj2
  cases hq : n.testBit j
  · have q1 : (bits .and .i64 (n : Int) (2 ^ j) == 0) = true := by rw [hsh, hq]; rfl
    have E := Lib.hid (show Pl.unOk l j = false by simp [Pl.unOk, Pl.keyOn, hn, hq])
    rw [un_no E.out]
    clear hsh E
    have HM := Lib.hid (made1 w (.cells #[.int .i64 (j : Int), .string t] 64))
    go_enter Tryz.func73, Tryz.ntmps73
    go_wp2
    all_goals go_ret
    all_goals exact ⟨_, rfl, HM.out, HB.out.alloc HB.out.size _⟩
  · have q1 : (bits .and .i64 (n : Int) (2 ^ j) == 0) = false := by rw [hsh, hq]; rfl
    clear hsh
    cases hq2 : ((n : Int) == 2 ^ j)
    · have p2 := bF hq2
      have E := Lib.hid (show Pl.unOk l j = true by simp only [Pl.unOk, Pl.keyOn, hn, Int.toNat_natCast, hq, hq2]; rfl)
      have F := Lib.hid (show Pl.lastI l - 2 ^ ((j : Int)).toNat = (n : Int) - 2 ^ j by rw [hn]; rfl)
      rw [un_yes E.out, F.out, Pl.withLast_length _ _ z1.1]
      clear E F
      have i4 : IntKind.i64.wrap ((n : Int) - 2 ^ j) = (n : Int) - 2 ^ j := wrapI (by omega) (by omega)
      obtain ⟨m, hm⟩ : ∃ m, l.length = m + 1 := ⟨l.length - 1, by omega⟩
      have hm1 : l.length - 1 = m := by omega
      rw [hm1] at hlast
      rw [hm] at hcap ⊢
      have i1 : (0 : Int) ≤ (m : Int) := by omega
      have i2 : (m : Int) < (m : Int) + 1 := by omega
      have i3 : IntKind.i64.wrap (m : Int) = (m : Int) := Pl.wrap_nat _ (by omega)
      have i5 : (m : Int) ≤ (cap : Int) := by omega
      have htk : (l.take m).length = m := by simp; omega
      go_enter Tryz.func73, Tryz.ntmps73
      go_wp2_with fail
      go_region_held3 (fun w' => w'.cell? ⟨b, off + m, none⟩ = some (.int .i64 (n : Int))) (first | exact e2 | exact e1 | exact hlast | go_keep) (first
        | (have hx := hown1; refine step_app_int rfl (.tmp 36) (.tmp 44) rfl w.heap.size _ m (ints (l.take m)) rfl (by first | exact hown1 | exact hown1.alloc _) ⟨_, 0, none⟩ 1 1 [(n : Int) - 2 ^ j] rfl rfl (by first | exact one_news _ _ | exact cell_news (e3 _ (cellB _ _ _ _) (fun h => absurd (show w.heap.size + 1 + 1 = w.heap.size + 1 from Option.some.inj h) (by omega))) | exact cell_news (e4 _ (cellC _ _ _ _) (fun h => absurd (show w.heap.size + 1 = w.heap.size + 1 + 1 from Option.some.inj h) (by omega)))) (by omega) (by have := hg1.size; simp at this ⊢; omega) ?_; intro v2 w2 hown2 hg2; have e2 : w2.cell? ⟨b, off + m, none⟩ = some (.int .i64 (n : Int)) := hg2.cell (by first | exact e1 | exact keepc (Joins.below_alloc1 _ _) e1) (fun h => absurd (hown1.lt b h.symm).1 (by omega)); have B2 := Lib.hid (grown2 hg2 (by first | exact B1.out | exact B1.out.alloc B1.out.size _) (fun k hk => (hown1.lt k hk).1)))
        | (refine step_app_int rfl (.tmp 31) (.tmp 35) rfl w.heap.size _ 0 [] rfl (by first | exact madeA _ _ | exact (madeA _ _).alloc _ | exact madeC _ _ _) ⟨b, off, none⟩ m cap (l.take m) rfl htk (by exact news_at HC.out m (by repeat (first | with_reducible exact Below.refl _ _ | with_reducible assumption | with_reducible refine Below.alloc ?_ ?_ _ | with_reducible refine Below.setCell ?_ ?_ _ | with_reducible refine Below.drew ?_ | with_reducible refine below_drewN ?_ _ | with_reducible refine Below.trans ?_ (Below.mono (by assumption) ?_) | omega | ((repeat (first | rw [World.size_alloc] | rw [size_setCell] | rw [size_drewN] | rw [size_drew])); omega) | exact Nat.le_refl _ | (dsimp only; omega) | (simp [World.setCell]; omega)))) (by omega) (by first | (simp; done) | (simp; omega)) ?_; intro v1 w1 hown1 hg1; rw [Nat.zero_add, List.nil_append] at hown1; have e1 : w1.cell? ⟨b, off + m, none⟩ = some (.int .i64 (n : Int)) := hg1.cell (keepc (by repeat (first | with_reducible exact Below.refl _ _ | with_reducible assumption | with_reducible refine Below.alloc ?_ ?_ _ | with_reducible refine Below.setCell ?_ ?_ _ | with_reducible refine Below.drew ?_ | with_reducible refine below_drewN ?_ _ | with_reducible refine Below.trans ?_ (Below.mono (by assumption) ?_) | omega | ((repeat (first | rw [World.size_alloc] | rw [size_setCell] | rw [size_drewN] | rw [size_drew])); omega) | exact Nat.le_refl _ | (dsimp only; omega) | (simp [World.setCell]; omega))) hlast) (fun h => by first | exact absurd (show b = w.heap.size + 1 from Option.some.inj h) (by omega) | exact absurd (show b = w.heap.size + 1 + 1 from Option.some.inj h) (by omega)); have e3 := fun (u : Value) h => hg1.cell (a := ⟨w.heap.size + 1 + 1, 0, none⟩) (v := u) h; have e4 := fun (u : Value) h => hg1.cell (a := ⟨w.heap.size + 1, 0, none⟩) (v := u) h; have B1 := Lib.hid (grown2 (w := w) hg1 (by repeat (first | with_reducible exact Below.refl _ _ | with_reducible assumption | with_reducible refine Below.alloc ?_ ?_ _ | with_reducible refine Below.setCell ?_ ?_ _ | with_reducible refine Below.drew ?_ | with_reducible refine below_drewN ?_ _ | with_reducible refine Below.trans ?_ (Below.mono (by assumption) ?_) | omega | ((repeat (first | rw [World.size_alloc] | rw [size_setCell] | rw [size_drewN] | rw [size_drew])); omega) | exact Nat.le_refl _ | (dsimp only; omega) | (simp [World.setCell]; omega))) (fun k hk => by have h9 := Option.some.inj hk; subst h9; first | exact Nat.le_succ _ | exact Nat.le_trans (Nat.le_succ _) (Nat.le_succ _)))))
      all_goals go_wp2_with fail
      all_goals go_ret
      all_goals
        refine ⟨_, rfl, ?_, B2.out⟩
        have h := hown2
        rw [← ints_snoc] at h
        unfold Pl.withLast
        rw [hm1]
        exact h
    · have p2 := bT hq2
      have E := Lib.hid (show Pl.unOk l j = false by simp only [Pl.unOk, Pl.keyOn, hn, Int.toNat_natCast, hq, hq2]; rfl)
      rw [un_no E.out]
      clear E
      have HM := Lib.hid (made1 w (.cells #[.int .i64 (j : Int), .string t] 64))
      go_enter Tryz.func73, Tryz.ntmps73
      go_wp2
      all_goals go_ret
      all_goals exact ⟨_, rfl, HM.out, HB.out.alloc HB.out.size _⟩

end Go.Proofs.YtdidgaibgkdjoaaGreatDoor
