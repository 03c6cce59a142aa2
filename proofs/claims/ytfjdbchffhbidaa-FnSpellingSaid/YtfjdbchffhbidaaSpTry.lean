/-
  CONTRACTS: spec.l9Try: a candidate tried, and put to its place.
-/
import Derived.Test.YtfjdbchffhbidaaPlainSplit
import Derived.Test.YtfjdbchffhbidaaUnfS
import Derived.Test.YtfjdbchffhbidaaJoin
import Derived.Test.YtfjdbchffhbidaaWithLast
namespace Go.Proofs.Ytfjdbchffhbidaa
open Go.RowKit

theorem Try.infoStr : (Try.prog.info? 9).map (fun i => (i.zero, i.size, i.bytes)) = some (some (.string ⟨#[]⟩), 1, 16) := by kernel_rfl
theorem strs_one (l : List ByteArray) : ∀ u ∈ strs l, u.oneCell' = true := by
  intro u hu
  simp only [strs, List.mem_map] at hu
  obtain ⟨n, _, rfl⟩ := hu
  rfl
theorem step_app_str {ops : Array Oper} {o : Oper} {a : Act} {w : World} {K : Act → World → Prop} {Q : Exit → Act → World → Prop} {E : Prop} (hgd : o.guard = none) (s x : Operand)
    (ho : o.op = .call { callee := .builtin .append, args := #[s, x], argTypes := #[26, 26] })
    (base : Nat) (v : Value) (n : Nat) (xs : List Value) (hs : a.eval s = v) (hown : w.ownsRow base 9 1 v n xs)
    (ad : Addr) (m c : Nat) (l : List ByteArray) (hx : a.eval x = .slice (some ad) m c) (hl : l.length = m) (hnews : ∀ j u, (strs l)[j]? = some u → w.cell? (ad.add j) = some u)
    (hnm : n + m ≤ 4194304) (hbase : base ≤ w.heap.size)
    (h : ∀ v' w', w'.ownsRow base 9 1 v' (n + m) (xs ++ strs l) → w.grownBy w' v.ownBlock → K (a.put o.dst v') w') : if Region.wanted o (yielded ops a.tmps) = true then Oper.wp Try.prog o a w K Q else E := by
  have hw : Region.wanted o (yielded ops a.tmps) = true := by simp [Region.wanted, hgd]
  rw [if_pos hw]
  obtain ⟨i0, hi, hz0, hz1, hz2⟩ := info_parts Try.infoStr
  exact wp_append_own w s x 26 ho base 9 i0 (.string ⟨#[]⟩) 1 16 Try.underlying26 hi hz0 hz1 hz2 rfl (by decide) v n xs hs hown ad m c (strs l) hx (by rw [strs_length, hl, Nat.mul_one]) hnews (strs_one l)
    (by unfold maxLen; omega) (by omega) hbase (fun v' w' h1 h2 _ => h v' w' h1 h2)

namespace Pl
theorem place_cons (y : ByteArray) (r : List ByteArray) (x : ByteArray) : place (y :: r) x = if ltB y x = true then place r x + 1 else 0 := by
  unfold place; rw [List.takeWhile_cons]; split <;> simp
theorem place_told (l : List ByteArray) (x : ByteArray) : ∀ (k : Nat) (h : k < l.length), k ≤ place l x → ltB l[k] x = decide (k < place l x) := by
  induction l with
  | nil => intro k h; simp at h
  | cons y r ih =>
    intro k h hk
    rw [place_cons] at hk ⊢
    cases hy : ltB y x
    · rw [hy, if_neg (by simp)] at hk
      obtain rfl : k = 0 := by omega
      simp [hy]
    · rw [hy, if_pos rfl] at hk
      cases k with
      | zero => simp [hy]
      | succ k =>
        have := ih k (by simpa using h) (by omega)
        simpa using this
theorem lt_bytes (a b : ByteArray) : Op.bytesLess a.toList b.toList = ltB a b := by
  rw [bytesLess_eq, ba_toList, ba_toList]; rfl
end Pl

theorem str_news (w : World) (x : ByteArray) (E : TypeId) : ∀ j u, (strs [x])[j]? = some u → (w.alloc (.cells #[.string x] E)).cell? ((⟨w.heap.size, 0, none⟩ : Addr).add j) = some u := by
  intro j u hj
  rw [Addr.add_lit, Nat.zero_add, World.cell?_alloc_mark]
  simpa [strs] using hj
theorem str_cell_news {w : World} {b : Nat} {x : ByteArray} (h : w.cell? ⟨b, 0, none⟩ = some (.string x)) : ∀ j u, (strs [x])[j]? = some u → w.cell? ((⟨b, 0, none⟩ : Addr).add j) = some u := by
  intro j u hj
  cases j with
  | zero =>
    simp [strs] at hj
    subst hj
    rw [Addr.add_lit]; exact h
  | succ j => simp [strs] at hj
theorem cells_grown {w w' : World} {b off : Nat} {xs : List Value} {row : Option Nat} (h : CellsAt w (some ⟨b, off, none⟩) xs) (hg : w.grownBy w' row) (hne : row ≠ some b) : CellsAt w' (some ⟨b, off, none⟩) xs := by
  intro j u hj
  obtain ⟨b', off', e, h7⟩ := h j u hj
  cases e
  exact ⟨_, _, rfl, hg.cell h7 (fun h => hne h.symm)⟩
theorem front_news {w : World} {b : Nat} {l : List ByteArray} (h : CellsAt w (some ⟨b, 0, none⟩) (strs l)) (m : Nat) : ∀ j u, (strs (l.take m))[j]? = some u → w.cell? ((⟨b, 0, none⟩ : Addr).add j) = some u := by
  have h2 := h.pre m
  rw [strs, ← List.map_take] at h2
  exact h2.news
theorem back_news {w : World} {b : Nat} {l : List ByteArray} (h : CellsAt w (some ⟨b, 0, none⟩) (strs l)) (m : Nat) : ∀ j u, (strs (l.drop m))[j]? = some u → w.cell? ((⟨b, m, none⟩ : Addr).add j) = some u := by
  intro j u hj
  rw [strs, List.map_drop, List.getElem?_drop] at hj
  obtain ⟨b', off', e, h7⟩ := h _ _ hj
  cases e
  rw [Addr.add_lit, ← h7, Nat.zero_add]
theorem back_none {w : World} {a : Addr} {l : List ByteArray} {m : Nat} (h : l.length ≤ m) : ∀ j u, (strs (l.drop m))[j]? = some u → w.cell? (a.add j) = some u := by
  intro j u hj
  rw [List.drop_of_length_le h] at hj
  simp [strs] at hj

/-- a row of texts, of the call's own, not nil -/
def OwnS (w : World) (base : Nat) (v : Value) (l : List ByteArray) : Prop := (∃ g cap, v = .slice (some ⟨g, 0, none⟩) l.length cap ∧ l.length ≤ cap ∧ base ≤ g ∧ g < w.heap.size) ∧ w.ownsRow base 9 1 v l.length (strs l)
theorem OwnS.of {w : World} {base : Nat} {v : Value} {l : List ByteArray} (h : w.ownsRow base 9 1 v l.length (strs l)) (hl : 0 < l.length) : OwnS w base v l := by
  refine ⟨?_, h⟩
  obtain ⟨_, h⟩ := h
  rcases h with ⟨_, h⟩ | ⟨g, cap, cur, rfl, hb, hg, hnc, _⟩
  · omega
  · exact ⟨g, cap, rfl, hnc, hb, by
      rcases Nat.lt_or_ge g w.heap.size with h | h
      · exact h
      · rw [Array.getElem?_eq_none h] at hg; cases hg⟩

theorem made_a (w : World) : (w.drew.alloc (.cells #[] 9)).ownsRow w.heap.size 9 1 (.slice (some ⟨w.heap.size, 0, none⟩) 0 0) 0 [] :=
  World.ownsRow_made w.drew #[] 0 (Nat.le_refl _) (by unfold maxLen; omega) rfl
theorem made_c (w : World) (o : Obj) : ((w.drew.alloc o).alloc (.cells #[] 9)).ownsRow w.heap.size 9 1 (.slice (some ⟨w.heap.size + 1, 0, none⟩) 0 0) 0 [] := by
  have h := World.ownsRow_made (base := w.heap.size) (e := 9) (size := 1) (w.drew.alloc o) #[] 0 (by simp) (by unfold maxLen; omega) rfl
  rwa [World.size_alloc, size_drew] at h

theorem own_lower {w : World} {base base' : Nat} {e : TypeId} {size : Nat} {v : Value} {n : Nat} {xs : List Value} (h : w.ownsRow base e size v n xs) (hb : base' ≤ base) : w.ownsRow base' e size v n xs := by
  obtain ⟨h1, h⟩ := h
  refine ⟨h1, ?_⟩
  rcases h with h | ⟨g, cap, cur, h2, h3, h4⟩
  · exact .inl h
  · exact .inr ⟨g, cap, cur, h2, Nat.le_trans hb h3, h4⟩
theorem cellX1 (w : World) (o : Obj) (x : ByteArray) (E : TypeId) : ((w.drew.alloc o).alloc (.cells #[.string x] E)).cell? ⟨w.heap.size + 1, 0, none⟩ = some (.string x) :=
  Joins.cell_alloc_mark_at _ #[.string x] _ _ _ 0 (by rw [World.size_alloc, size_drew])
theorem cellX2 (w : World) (o : Obj) (x : ByteArray) (E : TypeId) : ((w.drew.alloc (.cells #[.string x] E)).alloc o).cell? ⟨w.heap.size, 0, none⟩ = some (.string x) := by
  have h : (w.drew.alloc (.cells #[.string x] E)).cell? ⟨w.heap.size, 0, none⟩ = some (.string x) :=
    Joins.cell_alloc_mark_at _ #[.string x] _ _ _ 0 (by rw [size_drew])
  exact keepc (Joins.below_alloc1 _ _) h
theorem put_own {w : World} {base base' m : Nat} {v : Value} {l r : List ByteArray} {x : ByteArray} (hm : m ≤ l.length) (hr : r = l.take m ++ [x] ++ l.drop m)
    (h : w.ownsRow base' 9 1 v (m + 1 + (l.length - m)) (strs (l.take m) ++ strs [x] ++ strs (l.drop m))) (hb : base ≤ base') : OwnS w base v r := by
  have hz : r.length = m + 1 + (l.length - m) := by rw [hr]; simp; omega
  have hs : strs r = strs (l.take m) ++ strs [x] ++ strs (l.drop m) := by rw [hr]; simp [strs]
  refine OwnS.of ?_ (by omega)
  rw [hz, hs]
  exact own_lower h hb

set_option maxRecDepth 20000 in
set_option maxHeartbeats 1600000 in
theorem l9Try_any (v : Value) (l : List ByteArray) (x t s : ByteArray) (w : World) (base : Nat) (h : OwnS w base v l) (hbase : base ≤ w.heap.size) (hl : l.length ≤ 100) (hx : x.size ≤ maxLen) (ht : t.size ≤ maxLen) (ht2 : Pl.isWord t = true) :
    Calls Try.prog 45 #[v, .string x, .string t, .string s] w fun e w' => ∃ v', e = .returned v' ∧ OwnS w' base v' (Pl.tryIn s t l x) ∧ Below w.heap.size w w' := by
  have H0 := Lib.hid h
  have hB := Below.refl w.heap.size w
  obtain ⟨⟨b, cap, rfl, hlc, hgb, hbl⟩, hown⟩ := h
  cases h1 : Pl.isWord x
  · have E := Lib.hid (show Pl.tryIn s t l x = l by simp [Pl.tryIn, Pl.splits, h1])
    clear hown
    go_enter Try.func45, Try.ntmps45
    go_wp2_with (go_at_call 43; refine (l9Word_any _ _ hx).mono ?_; rintro e w' ⟨he, rfl⟩; rw [h1] at he; subst he)
    go_ret
    exact ⟨_, rfl, by rw [E.out]; exact H0.out, (by repeat (first | with_reducible exact Below.refl _ _ | with_reducible assumption | with_reducible refine Below.alloc ?_ ?_ _ | with_reducible refine Below.setCell ?_ ?_ _ | with_reducible refine Below.drew ?_ | with_reducible refine below_drewN ?_ _ | with_reducible refine Below.trans ?_ (Below.mono (by assumption) ?_) | omega | ((repeat (first | rw [World.size_alloc] | rw [size_setCell] | rw [size_drewN] | rw [size_drew])); omega) | exact Nat.le_refl _ | (dsimp only; omega) | (simp [World.setCell]; omega)))⟩
  have HJ := Lib.hid (fun W => l9Join_any x t W hx ht h1 ht2)
  have HS := Lib.hid (show Pl.splits s t x = ((Pl.join x t).toList == s.toList) by simp [Pl.splits, h1])
  generalize Pl.join x t = y at HJ HS
  cases h2 : (y.toList == s.toList)
  · have E := Lib.hid (show Pl.tryIn s t l x = l by simp [Pl.tryIn, HS.out, h2])
    clear hown
    go_enter Try.func45, Try.ntmps45
    go_wp2_with (first | (go_at_call 43; refine (l9Word_any _ _ hx).mono ?_; rintro e w' ⟨he, rfl⟩; rw [h1] at he; subst he) | (go_at_call 50; refine (HJ.out _).mono ?_; rintro e w' ⟨rfl, rfl⟩))
    go_ret
    exact ⟨_, rfl, by rw [E.out]; exact H0.out, (by repeat (first | with_reducible exact Below.refl _ _ | with_reducible assumption | with_reducible refine Below.alloc ?_ ?_ _ | with_reducible refine Below.setCell ?_ ?_ _ | with_reducible refine Below.drew ?_ | with_reducible refine below_drewN ?_ _ | with_reducible refine Below.trans ?_ (Below.mono (by assumption) ?_) | omega | ((repeat (first | rw [World.size_alloc] | rw [size_setCell] | rw [size_drewN] | rw [size_drew])); omega) | exact Nat.le_refl _ | (dsimp only; omega) | (simp [World.setCell]; omega)))⟩
  have E := Lib.hid (show Pl.tryIn s t l x = Pl.ins l x by simp [Pl.tryIn, HS.out, h2])
  rw [E.out]
  have HC := Lib.hid (show CellsAt w (some ⟨b, 0, none⟩) (strs l) by
    obtain ⟨a', cap', e, _, _, _, _, h6⟩ := Rows.of_own hown
    injection e with e1 _ _
    subst e1
    exact h6)
  clear hown hB
  have PL := Pl.place_le l x
  go_enter Try.func45, Try.ntmps45
  go_wp2_with (first | (go_at_call 43; refine (l9Word_any _ _ hx).mono ?_; rintro e w' ⟨he, rfl⟩; rw [h1] at he; subst he) | (go_at_call 50; refine (HJ.out _).mono ?_; rintro e w' ⟨rfl, rfl⟩))
  go_loopw [9] (fun i wr => ∃ k : Nat, k ≤ Pl.place l x ∧ i = .int .i64 k ∧ wr = w) (fun i _ => l.length - (intOf i).toNat)
  case atStart => exact ⟨0, Nat.zero_le _, rfl, by trivial⟩
  case round =>
    obtain ⟨k, hk, rfl, rfl⟩ := hrel
    by_cases hlt : k < l.length
    · obtain ⟨b', off, e, hsrc⟩ := HC.out k _ (strs_at l k hlt)
      cases e
      rw [Nat.zero_add] at hsrc
      have hki : (k : Int) < (l.length : Int) := by omega
      have hto := Pl.place_told l x k hlt hk
      rw [← Pl.lt_bytes] at hto
      by_cases hkp : k < Pl.place l x
      · rw [decide_eq_true hkp] at hto
        go_wp2_with fail
        go_roundw
        case rel => exact ⟨k + 1, by omega, by go_num, by trivial⟩
        case measure => simp [intOf]; omega
      · rw [decide_eq_false hkp] at hto
        obtain rfl : k = Pl.place l x := by omega
        have HL := Lib.hid (List.getElem?_eq_getElem hlt)
        generalize hy : l[Pl.place l x] = z at hsrc hto HL
        cases h3 : (z.toList == x.toList)
        · have F := Lib.hid (show Pl.ins l x = l.take (Pl.place l x) ++ [x] ++ l.drop (Pl.place l x) by
            unfold Pl.ins
            rw [if_neg (by rw [HL.out]; intro e; injection e with e; rw [e] at h3; simp at h3)])
          go_upto_region 8 with fail
          clear hto hsrc HL h3 hy hki hlt hkp hk
          generalize Pl.place l x = m at F PL ⊢
          have i1 : (0 : Int) ≤ (m : Int) := by omega
          have i2 : (m : Int) ≤ (l.length : Int) := by omega
          have i3 : (m : Int) ≤ (cap : Int) := by omega
          have i4 : m ≤ cap := by omega
          have htk : (l.take m).length = m := by rw [List.length_take]; omega
          have hdr : (l.drop m).length = l.length - m := List.length_drop
          by_cases hcm : cap = m
          · subst hcm
            go_region_held3 (fun _ => True) (exact True.intro) (first
              | (have hx := hown2; refine step_app_str rfl (.tmp 55) (.tmp 58) rfl wr.heap.size _ (cap + 1) _ rfl hown2 ⟨b, 0, none⟩ _ _ (l.drop cap) rfl (by rw [hdr]; omega) (back_none (by omega)) (by omega) (by exact B2.out.size) ?_; intro v3 w3 hown3 hg3; have B3 := Lib.hid (grown2 hg3 B2.out (fun k hk => (hown2.lt k hk).1)))
              | (have hx := hown1; refine step_app_str rfl (.tmp 52) (.tmp 54) rfl wr.heap.size _ cap (strs (l.take cap)) rfl (by first | exact hown1 | exact hown1.alloc _) ⟨_, 0, none⟩ 1 1 [x] rfl rfl (by first | exact str_news _ _ _ | exact str_cell_news (e3 _ (cellX1 _ _ _ _) (fun h => absurd (show wr.heap.size + 1 = wr.heap.size from Option.some.inj h) (by omega))) | exact str_cell_news (e4 _ (cellX2 _ _ _ _) (fun h => absurd (show wr.heap.size = wr.heap.size + 1 from Option.some.inj h) (by omega)))) (by omega) (by first | exact B1.out.size | exact (B1.out.alloc B1.out.size _).size) ?_; intro v2 w2 hown2 hg2; have B2 := Lib.hid (grown2 hg2 (by first | exact B1.out | exact B1.out.alloc B1.out.size _) (fun k hk => (hown1.lt k hk).1)))
              | (refine step_app_str rfl (.tmp 48) (.tmp 51) rfl wr.heap.size _ 0 [] rfl (by first | exact made_a _ | exact (made_a _).alloc _ | exact made_c _ _) ⟨b, 0, none⟩ cap _ (l.take cap) rfl htk (by exact front_news (HC.out.keep (by repeat (first | with_reducible exact Below.refl _ _ | with_reducible assumption | with_reducible refine Below.alloc ?_ ?_ _ | with_reducible refine Below.setCell ?_ ?_ _ | with_reducible refine Below.drew ?_ | with_reducible refine below_drewN ?_ _ | with_reducible refine Below.trans ?_ (Below.mono (by assumption) ?_) | omega | ((repeat (first | rw [World.size_alloc] | rw [size_setCell] | rw [size_drewN] | rw [size_drew])); omega) | exact Nat.le_refl _ | (dsimp only; omega) | (simp [World.setCell]; omega)))) cap) (by omega) (by first | (simp; done) | (simp; omega)) ?_; intro v1 w1 hown1 hg1; rw [Nat.zero_add, List.nil_append] at hown1; have e3 := fun (u : Value) h => hg1.cell (a := ⟨wr.heap.size + 1, 0, none⟩) (v := u) h; have e4 := fun (u : Value) h => hg1.cell (a := ⟨wr.heap.size, 0, none⟩) (v := u) h; have B1 := Lib.hid (grown2 (w := wr) hg1 (by repeat (first | with_reducible exact Below.refl _ _ | with_reducible assumption | with_reducible refine Below.alloc ?_ ?_ _ | with_reducible refine Below.setCell ?_ ?_ _ | with_reducible refine Below.drew ?_ | with_reducible refine below_drewN ?_ _ | with_reducible refine Below.trans ?_ (Below.mono (by assumption) ?_) | omega | ((repeat (first | rw [World.size_alloc] | rw [size_setCell] | rw [size_drewN] | rw [size_drew])); omega) | exact Nat.le_refl _ | (dsimp only; omega) | (simp [World.setCell]; omega))) (fun k hk => by have h9 := Option.some.inj hk; subst h9; first | exact Nat.le_refl _ | exact Nat.le_succ _))))
            all_goals go_wp2_with fail
            all_goals go_ret
            all_goals exact ⟨_, rfl, put_own (by omega) F.out (by first | exact hown3 | (rw [show l.length - cap = 0 by omega]; exact hown3)) hbase, B3.out⟩
          · go_region_held3 (fun _ => True) (exact True.intro) (first
              | (have hx := hown2; refine step_app_str rfl (.tmp 55) (.tmp 58) rfl wr.heap.size _ (m + 1) _ rfl hown2 ⟨b, _, none⟩ (l.length - m) _ (l.drop m) rfl hdr (by first | exact back_news C2.out m | (have h9 := back_news C2.out m; simpa using h9)) (by omega) (by exact B2.out.size) ?_; intro v3 w3 hown3 hg3; have B3 := Lib.hid (grown2 hg3 B2.out (fun k hk => (hown2.lt k hk).1)))
              | (have hx := hown1; refine step_app_str rfl (.tmp 52) (.tmp 54) rfl wr.heap.size _ m (strs (l.take m)) rfl (by first | exact hown1 | exact hown1.alloc _) ⟨_, 0, none⟩ 1 1 [x] rfl rfl (by first | exact str_news _ _ _ | exact str_cell_news (e3 _ (cellX1 _ _ _ _) (fun h => absurd (show wr.heap.size + 1 = wr.heap.size from Option.some.inj h) (by omega))) | exact str_cell_news (e4 _ (cellX2 _ _ _ _) (fun h => absurd (show wr.heap.size = wr.heap.size + 1 from Option.some.inj h) (by omega)))) (by omega) (by first | exact B1.out.size | exact (B1.out.alloc B1.out.size _).size) ?_; intro v2 w2 hown2 hg2; have C2 := Lib.hid (cells_grown (by first | exact C1.out | exact C1.out.keep (Joins.below_alloc1 _ _)) hg2 (fun h => absurd (hown1.lt b h).1 (by omega))); have B2 := Lib.hid (grown2 hg2 (by first | exact B1.out | exact B1.out.alloc B1.out.size _) (fun k hk => (hown1.lt k hk).1)))
              | (refine step_app_str rfl (.tmp 48) (.tmp 51) rfl wr.heap.size _ 0 [] rfl (by first | exact made_a _ | exact (made_a _).alloc _ | exact made_c _ _) ⟨b, 0, none⟩ m _ (l.take m) rfl htk (by exact front_news (HC.out.keep (by repeat (first | with_reducible exact Below.refl _ _ | with_reducible assumption | with_reducible refine Below.alloc ?_ ?_ _ | with_reducible refine Below.setCell ?_ ?_ _ | with_reducible refine Below.drew ?_ | with_reducible refine below_drewN ?_ _ | with_reducible refine Below.trans ?_ (Below.mono (by assumption) ?_) | omega | ((repeat (first | rw [World.size_alloc] | rw [size_setCell] | rw [size_drewN] | rw [size_drew])); omega) | exact Nat.le_refl _ | (dsimp only; omega) | (simp [World.setCell]; omega)))) m) (by omega) (by first | (simp; done) | (simp; omega)) ?_; intro v1 w1 hown1 hg1; rw [Nat.zero_add, List.nil_append] at hown1; have C1 := Lib.hid (cells_grown (HC.out.keep (by repeat (first | with_reducible exact Below.refl _ _ | with_reducible assumption | with_reducible refine Below.alloc ?_ ?_ _ | with_reducible refine Below.setCell ?_ ?_ _ | with_reducible refine Below.drew ?_ | with_reducible refine below_drewN ?_ _ | with_reducible refine Below.trans ?_ (Below.mono (by assumption) ?_) | omega | ((repeat (first | rw [World.size_alloc] | rw [size_setCell] | rw [size_drewN] | rw [size_drew])); omega) | exact Nat.le_refl _ | (dsimp only; omega) | (simp [World.setCell]; omega)))) hg1 (fun h => by first | exact absurd (show wr.heap.size = b from Option.some.inj h) (by omega) | exact absurd (show wr.heap.size + 1 = b from Option.some.inj h) (by omega))); have e3 := fun (u : Value) h => hg1.cell (a := ⟨wr.heap.size + 1, 0, none⟩) (v := u) h; have e4 := fun (u : Value) h => hg1.cell (a := ⟨wr.heap.size, 0, none⟩) (v := u) h; have B1 := Lib.hid (grown2 (w := wr) hg1 (by repeat (first | with_reducible exact Below.refl _ _ | with_reducible assumption | with_reducible refine Below.alloc ?_ ?_ _ | with_reducible refine Below.setCell ?_ ?_ _ | with_reducible refine Below.drew ?_ | with_reducible refine below_drewN ?_ _ | with_reducible refine Below.trans ?_ (Below.mono (by assumption) ?_) | omega | ((repeat (first | rw [World.size_alloc] | rw [size_setCell] | rw [size_drewN] | rw [size_drew])); omega) | exact Nat.le_refl _ | (dsimp only; omega) | (simp [World.setCell]; omega))) (fun k hk => by have h9 := Option.some.inj hk; subst h9; first | exact Nat.le_refl _ | exact Nat.le_succ _))))
            all_goals go_wp2_with fail
            all_goals go_ret
            all_goals exact ⟨_, rfl, put_own (by omega) F.out hown3 hbase, B3.out⟩
        · have F := Lib.hid (show Pl.ins l x = l by
            have e : z = x := by have := eq_of_beq h3; rw [Pl.ba_toList, Pl.ba_toList] at this; exact Pl.ba_ext this
            unfold Pl.ins; rw [if_pos (by rw [HL.out, e])])
          go_wp2_with fail
          go_ret
          exact ⟨_, rfl, by rw [F.out]; exact H0.out, (by repeat (first | with_reducible exact Below.refl _ _ | with_reducible assumption | with_reducible refine Below.alloc ?_ ?_ _ | with_reducible refine Below.setCell ?_ ?_ _ | with_reducible refine Below.drew ?_ | with_reducible refine below_drewN ?_ _ | with_reducible refine Below.trans ?_ (Below.mono (by assumption) ?_) | omega | ((repeat (first | rw [World.size_alloc] | rw [size_setCell] | rw [size_drewN] | rw [size_drew])); omega) | exact Nat.le_refl _ | (dsimp only; omega) | (simp [World.setCell]; omega)))⟩
    · obtain rfl : k = Pl.place l x := by omega
      have hki : ¬ (Pl.place l x : Int) < (l.length : Int) := by omega
      have F := Lib.hid (show Pl.ins l x = l.take (Pl.place l x) ++ [x] ++ l.drop (Pl.place l x) by
        unfold Pl.ins
        rw [if_neg (by rw [List.getElem?_eq_none (by omega)]; simp)])
      go_upto_region 8 with fail
      clear hki hlt hk
      generalize Pl.place l x = m at F PL ⊢
      have i1 : (0 : Int) ≤ (m : Int) := by omega
      have i2 : (m : Int) ≤ (l.length : Int) := by omega
      have i3 : (m : Int) ≤ (cap : Int) := by omega
      have i4 : m ≤ cap := by omega
      have htk : (l.take m).length = m := by rw [List.length_take]; omega
      have hdr : (l.drop m).length = l.length - m := List.length_drop
      by_cases hcm : cap = m
      · subst hcm
        go_region_held3 (fun _ => True) (exact True.intro) (first
          | (have hx := hown2; refine step_app_str rfl (.tmp 55) (.tmp 58) rfl wr.heap.size _ (cap + 1) _ rfl hown2 ⟨b, 0, none⟩ _ _ (l.drop cap) rfl (by rw [hdr]; omega) (back_none (by omega)) (by omega) (by exact B2.out.size) ?_; intro v3 w3 hown3 hg3; have B3 := Lib.hid (grown2 hg3 B2.out (fun k hk => (hown2.lt k hk).1)))
          | (have hx := hown1; refine step_app_str rfl (.tmp 52) (.tmp 54) rfl wr.heap.size _ cap (strs (l.take cap)) rfl (by first | exact hown1 | exact hown1.alloc _) ⟨_, 0, none⟩ 1 1 [x] rfl rfl (by first | exact str_news _ _ _ | exact str_cell_news (e3 _ (cellX1 _ _ _ _) (fun h => absurd (show wr.heap.size + 1 = wr.heap.size from Option.some.inj h) (by omega))) | exact str_cell_news (e4 _ (cellX2 _ _ _ _) (fun h => absurd (show wr.heap.size = wr.heap.size + 1 from Option.some.inj h) (by omega)))) (by omega) (by first | exact B1.out.size | exact (B1.out.alloc B1.out.size _).size) ?_; intro v2 w2 hown2 hg2; have B2 := Lib.hid (grown2 hg2 (by first | exact B1.out | exact B1.out.alloc B1.out.size _) (fun k hk => (hown1.lt k hk).1)))
          | (refine step_app_str rfl (.tmp 48) (.tmp 51) rfl wr.heap.size _ 0 [] rfl (by first | exact made_a _ | exact (made_a _).alloc _ | exact made_c _ _) ⟨b, 0, none⟩ cap _ (l.take cap) rfl htk (by exact front_news (HC.out.keep (by repeat (first | with_reducible exact Below.refl _ _ | with_reducible assumption | with_reducible refine Below.alloc ?_ ?_ _ | with_reducible refine Below.setCell ?_ ?_ _ | with_reducible refine Below.drew ?_ | with_reducible refine below_drewN ?_ _ | with_reducible refine Below.trans ?_ (Below.mono (by assumption) ?_) | omega | ((repeat (first | rw [World.size_alloc] | rw [size_setCell] | rw [size_drewN] | rw [size_drew])); omega) | exact Nat.le_refl _ | (dsimp only; omega) | (simp [World.setCell]; omega)))) cap) (by omega) (by first | (simp; done) | (simp; omega)) ?_; intro v1 w1 hown1 hg1; rw [Nat.zero_add, List.nil_append] at hown1; have e3 := fun (u : Value) h => hg1.cell (a := ⟨wr.heap.size + 1, 0, none⟩) (v := u) h; have e4 := fun (u : Value) h => hg1.cell (a := ⟨wr.heap.size, 0, none⟩) (v := u) h; have B1 := Lib.hid (grown2 (w := wr) hg1 (by repeat (first | with_reducible exact Below.refl _ _ | with_reducible assumption | with_reducible refine Below.alloc ?_ ?_ _ | with_reducible refine Below.setCell ?_ ?_ _ | with_reducible refine Below.drew ?_ | with_reducible refine below_drewN ?_ _ | with_reducible refine Below.trans ?_ (Below.mono (by assumption) ?_) | omega | ((repeat (first | rw [World.size_alloc] | rw [size_setCell] | rw [size_drewN] | rw [size_drew])); omega) | exact Nat.le_refl _ | (dsimp only; omega) | (simp [World.setCell]; omega))) (fun k hk => by have h9 := Option.some.inj hk; subst h9; first | exact Nat.le_refl _ | exact Nat.le_succ _))))
        all_goals go_wp2_with fail
        all_goals go_ret
        all_goals exact ⟨_, rfl, put_own (by omega) F.out (by first | exact hown3 | (rw [show l.length - cap = 0 by omega]; exact hown3)) hbase, B3.out⟩
      · go_region_held3 (fun _ => True) (exact True.intro) (first
          | (have hx := hown2; refine step_app_str rfl (.tmp 55) (.tmp 58) rfl wr.heap.size _ (m + 1) _ rfl hown2 ⟨b, _, none⟩ (l.length - m) _ (l.drop m) rfl hdr (by first | exact back_news C2.out m | (have h9 := back_news C2.out m; simpa using h9)) (by omega) (by exact B2.out.size) ?_; intro v3 w3 hown3 hg3; have B3 := Lib.hid (grown2 hg3 B2.out (fun k hk => (hown2.lt k hk).1)))
          | (have hx := hown1; refine step_app_str rfl (.tmp 52) (.tmp 54) rfl wr.heap.size _ m (strs (l.take m)) rfl (by first | exact hown1 | exact hown1.alloc _) ⟨_, 0, none⟩ 1 1 [x] rfl rfl (by first | exact str_news _ _ _ | exact str_cell_news (e3 _ (cellX1 _ _ _ _) (fun h => absurd (show wr.heap.size + 1 = wr.heap.size from Option.some.inj h) (by omega))) | exact str_cell_news (e4 _ (cellX2 _ _ _ _) (fun h => absurd (show wr.heap.size = wr.heap.size + 1 from Option.some.inj h) (by omega)))) (by omega) (by first | exact B1.out.size | exact (B1.out.alloc B1.out.size _).size) ?_; intro v2 w2 hown2 hg2; have C2 := Lib.hid (cells_grown (by first | exact C1.out | exact C1.out.keep (Joins.below_alloc1 _ _)) hg2 (fun h => absurd (hown1.lt b h).1 (by omega))); have B2 := Lib.hid (grown2 hg2 (by first | exact B1.out | exact B1.out.alloc B1.out.size _) (fun k hk => (hown1.lt k hk).1)))
          | (refine step_app_str rfl (.tmp 48) (.tmp 51) rfl wr.heap.size _ 0 [] rfl (by first | exact made_a _ | exact (made_a _).alloc _ | exact made_c _ _) ⟨b, 0, none⟩ m _ (l.take m) rfl htk (by exact front_news (HC.out.keep (by repeat (first | with_reducible exact Below.refl _ _ | with_reducible assumption | with_reducible refine Below.alloc ?_ ?_ _ | with_reducible refine Below.setCell ?_ ?_ _ | with_reducible refine Below.drew ?_ | with_reducible refine below_drewN ?_ _ | with_reducible refine Below.trans ?_ (Below.mono (by assumption) ?_) | omega | ((repeat (first | rw [World.size_alloc] | rw [size_setCell] | rw [size_drewN] | rw [size_drew])); omega) | exact Nat.le_refl _ | (dsimp only; omega) | (simp [World.setCell]; omega)))) m) (by omega) (by first | (simp; done) | (simp; omega)) ?_; intro v1 w1 hown1 hg1; rw [Nat.zero_add, List.nil_append] at hown1; have C1 := Lib.hid (cells_grown (HC.out.keep (by repeat (first | with_reducible exact Below.refl _ _ | with_reducible assumption | with_reducible refine Below.alloc ?_ ?_ _ | with_reducible refine Below.setCell ?_ ?_ _ | with_reducible refine Below.drew ?_ | with_reducible refine below_drewN ?_ _ | with_reducible refine Below.trans ?_ (Below.mono (by assumption) ?_) | omega | ((repeat (first | rw [World.size_alloc] | rw [size_setCell] | rw [size_drewN] | rw [size_drew])); omega) | exact Nat.le_refl _ | (dsimp only; omega) | (simp [World.setCell]; omega)))) hg1 (fun h => by first | exact absurd (show wr.heap.size = b from Option.some.inj h) (by omega) | exact absurd (show wr.heap.size + 1 = b from Option.some.inj h) (by omega))); have e3 := fun (u : Value) h => hg1.cell (a := ⟨wr.heap.size + 1, 0, none⟩) (v := u) h; have e4 := fun (u : Value) h => hg1.cell (a := ⟨wr.heap.size, 0, none⟩) (v := u) h; have B1 := Lib.hid (grown2 (w := wr) hg1 (by repeat (first | with_reducible exact Below.refl _ _ | with_reducible assumption | with_reducible refine Below.alloc ?_ ?_ _ | with_reducible refine Below.setCell ?_ ?_ _ | with_reducible refine Below.drew ?_ | with_reducible refine below_drewN ?_ _ | with_reducible refine Below.trans ?_ (Below.mono (by assumption) ?_) | omega | ((repeat (first | rw [World.size_alloc] | rw [size_setCell] | rw [size_drewN] | rw [size_drew])); omega) | exact Nat.le_refl _ | (dsimp only; omega) | (simp [World.setCell]; omega))) (fun k hk => by have h9 := Option.some.inj hk; subst h9; first | exact Nat.le_refl _ | exact Nat.le_succ _))))
        all_goals go_wp2_with fail
        all_goals go_ret
        all_goals exact ⟨_, rfl, put_own (by omega) F.out hown3 hbase, B3.out⟩

end Go.Proofs.Ytfjdbchffhbidaa
