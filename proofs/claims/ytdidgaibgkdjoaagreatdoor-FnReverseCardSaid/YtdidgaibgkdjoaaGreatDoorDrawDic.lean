/-
  CONTRACTS: the draws of dictionaries: l1Own, l6Put, entry, dictionary, known. Of a dictionary the number of entries and their sizes are told.
-/
import Derived.Test.YtdidgaibgkdjoaaGreatDoorDrawTrs
import Derived.Test.YtdidgaibgkdjoaaGreatDoorBasA
import Derived.Test.YtdidgaibgkdjoaaGreatDoorBasB
import Derived.Deep.RegionHeld3
namespace Go.Proofs.YtdidgaibgkdjoaaGreatDoor
open Go.RowKit

theorem Tryz.infoDen : (Tryz.prog.info? 39).map (fun i => (i.zero, i.size, i.bytes)) = some (some (.agg #[.slice none 0 0, .string ⟨#[]⟩]), 2, 40) := by kernel_rfl
theorem apartT {w : World} {b b' : Nat} {E E' : TypeId} {s s' n n' : Nat} {v v' : Value} {xs xs' : List Value} (h : w.ownsRow b E s v n xs) (h' : w.ownsRow b' E' s' v' n' xs') (hne : E ≠ E') : v.ownBlock = none ∨ v.ownBlock ≠ v'.ownBlock := by
  rcases h.2 with ⟨rfl, _⟩ | ⟨g1, c1, u1, rfl, _, k1, _⟩
  · exact .inl rfl
  · right
    rcases h'.2 with ⟨rfl, _⟩ | ⟨g2, c2, u2, rfl, _, k2, _⟩
    · simp [Value.ownBlock]
    · simp only [Value.ownBlock, ne_eq, Option.some.injEq]
      intro e
      subst e
      rw [k1] at k2
      cases k2
      exact hne rfl
/-- entries of the call's own -/
def OwnD (w : World) (base : Nat) (v : Value) (l : List Ent) : Prop :=
  ∃ xs, w.ownsRow base 39 2 v l.length xs ∧ ∀ j (h : j < l.length), ∃ u, xs[j * 2]? = some u ∧ xs[j * 2 + 1]? = some (.string (l[j]).2) ∧ w.ownsRow base 3 1 u (l[j]).1.length (ints (l[j]).1)
theorem OwnD.nil (w : World) (base : Nat) : OwnD w base (.slice none 0 0) [] := ⟨[], World.ownsRow_nil _ _ _ _, fun j h => absurd h (Nat.not_lt_zero j)⟩
theorem OwnD.keep {w w' : World} {base : Nat} {v : Value} {l : List Ent} (h : OwnD w base v l) (hb : Below w.heap.size w w') : OwnD w' base v l := by
  obtain ⟨xs, h1, h2⟩ := h
  refine ⟨xs, own_keep h1 hb, fun j hj => ?_⟩
  obtain ⟨u, e1, e2, e3⟩ := h2 j hj
  exact ⟨u, e1, e2, own_keep e3 hb⟩
theorem OwnD.alloc {w : World} {base : Nat} {v : Value} {l : List Ent} (h : OwnD w base v l) (o : Obj) : OwnD (w.alloc o) base v l := h.keep ((Below.refl _ _).alloc (Nat.le_refl _) o)
/-- a change in a block that is no such row -/
theorem OwnD.kept {w w' : World} {base : Nat} {v : Value} {l : List Ent} {r : Option Nat} (h : OwnD w base v l) (hg : w.grownBy w' r) (hr : ∀ g, r = some g → g < base ∨ ∃ cs T f, w.heap[g]? = some (.cells cs T f) ∧ T ≠ 39 ∧ T ≠ 3) : OwnD w' base v l := by
  obtain ⟨xs, h1, h2⟩ := h
  have key : ∀ (E : TypeId) (s n : Nat) (u : Value) (ys : List Value), w.ownsRow base E s u n ys → (E = 39 ∨ E = 3) → u.ownBlock = none ∨ u.ownBlock ≠ r := by
    intro E s n u ys ho hE
    rcases ho.2 with ⟨rfl, _⟩ | ⟨g1, c1, u1, rfl, k0, k1, _⟩
    · exact .inl rfl
    · right
      intro e
      have e' : r = some g1 := e.symm
      rcases hr g1 e' with hlt | ⟨cs, T, f, hh, t1, t2⟩
      · omega
      · rw [k1] at hh
        cases hh
        rcases hE with rfl | rfl
        · exact t1 rfl
        · exact t2 rfl
  refine ⟨xs, h1.kept hg (key _ _ _ _ _ h1 (.inl rfl)), fun j hj => ?_⟩
  obtain ⟨u, e1, e2, e3⟩ := h2 j hj
  exact ⟨u, e1, e2, e3.kept hg (key _ _ _ _ _ e3 (.inr rfl))⟩
theorem OwnD.read {v0 : Value} {m g B : Nat} {a b : World} {base : Nat} {v : Value} {l : List Ent} (h : OwnD a base v l) (hd : Read v0 m g B a b) (hg : g < base) : OwnD b base v l :=
  h.kept hd.2 (fun k hk => .inl (by injection hk with hk; omega))
theorem OwnD.ents {w : World} {base : Nat} {v : Value} {l : List Ent} (h : OwnD w base v l) : Ents w v l := by
  obtain ⟨xs, h1, h2⟩ := h
  obtain ⟨a, cap, e, h4, h5, h6, h7, h8⟩ := Rows.of_own h1
  refine ⟨a, cap, e, h4, h5, h7, fun k hk => ?_⟩
  obtain ⟨u, e1, e2, e3⟩ := h2 k hk
  obtain ⟨b, off, e4, e5⟩ := h8 _ _ e1
  obtain ⟨b', off', e6, e7⟩ := h8 _ _ e2
  rw [e4] at e6
  cases e6
  exact ⟨b, off, u, e4, e5, by rw [← Nat.add_assoc] at e7; exact e7, Rows.of_own e3⟩
/-- an entry is appended -/
theorem OwnD.snoc {w1 w2 : World} {base : Nat} {v v2 u : Value} {l : List Ent} {p : List Int} {t : ByteArray} {xs : List Value} (hx : w1.ownsRow base 39 2 v l.length xs) (hD : ∀ j (h : j < l.length), ∃ u, xs[j * 2]? = some u ∧ xs[j * 2 + 1]? = some (.string (l[j]).2) ∧ w1.ownsRow base 3 1 u (l[j]).1.length (ints (l[j]).1))
    (hu : w1.ownsRow base 3 1 u p.length (ints p)) (h2 : w2.ownsRow base 39 2 v2 (l.length + 1) (xs ++ [u, .string t])) (hg : w1.grownBy w2 v.ownBlock) : OwnD w2 base v2 (l ++ [(p, t)]) := by
  have hl : xs.length = l.length * 2 := hx.1
  refine ⟨xs ++ [u, .string t], by rw [List.length_append]; exact h2, fun j hj => ?_⟩
  rw [List.length_append] at hj
  rcases Nat.lt_or_ge j l.length with hlt | hge
  · obtain ⟨u', e1, e2, e3⟩ := hD j hlt
    rw [List.getElem_append_left hlt]
    exact ⟨u', by rw [List.getElem?_append_left (by omega)]; exact e1, by rw [List.getElem?_append_left (by omega)]; exact e2, e3.kept hg (apartT e3 hx (by decide))⟩
  · have hj' : j < l.length + 1 := hj
    obtain rfl : j = l.length := by omega
    have e : (l ++ [(p, t)])[l.length]'(by simp) = (p, t) := by simp
    rw [e]
    refine ⟨u, ?_, ?_, hu.kept hg (apartT hu hx (by decide))⟩
    · rw [List.getElem?_append_right (by omega), hl, Nat.sub_self]; rfl
    · rw [List.getElem?_append_right (by omega), hl, show l.length * 2 + 1 - l.length * 2 = 1 by omega]; rfl

/-- an append of numbers to a row of the call's own -/
theorem app_outs {ops : Array Oper} {rest : List Oper} {o : Oper} {a : Act} {w : World} {Q : Exit → Act → World → Prop} (hgd : o.guard = none) (s x : Operand)
    (ho : o.op = .call { callee := .builtin .append, args := #[s, x], argTypes := #[36, 36] })
    (base : Nat) (v : Value) (n : Nat) (xs : List Value) (hs : a.eval s = v) (hown : w.ownsRow base 3 1 v n xs)
    (ad : Addr) (m c : Nat) (l : List Int) (hx : a.eval x = .slice (some ad) m c) (hl : l.length = m) (hnews : ∀ j u, (ints l)[j]? = some u → w.cell? (ad.add j) = some u)
    (hnm : n + m ≤ 4194304) (hbase : base ≤ w.heap.size)
    (h : ∀ v' w', w'.ownsRow base 3 1 v' (n + m) (xs ++ ints l) → w.grownBy w' v.ownBlock → wpList Tryz.prog ops Q rest (a.put o.dst v') w') : wpList Tryz.prog ops Q (o :: rest) a w := by
  obtain ⟨i0, hi, hz0, hz1, hz2⟩ := info_parts Tryz.infoOut
  exact wpList_append_own w hgd s x 36 ho base 3 i0 (.int .i64 0) 1 8 Tryz.underlying36 hi hz0 hz1 hz2 rfl (by decide) v n xs hs hown ad m c (ints l) hx (by rw [ints_length, hl, Nat.mul_one]) hnews
    (by intro u hu; obtain ⟨x, _, rfl⟩ := List.mem_map.1 hu; rfl)
    (by unfold maxLen; omega) (by omega) hbase (fun v' w' h1 h2 _ => h v' w' h1 h2)
theorem cells_newsW {w : World} {b off : Nat} {xs : List Value} (h : CellsAt w (some ⟨b, off, none⟩) xs) : ∀ j u, xs[j]? = some u → w.cell? ((⟨b, off, none⟩ : Addr).add j) = some u := by
  intro j u hj
  obtain ⟨b', off', e, h2⟩ := h j u hj
  cases e
  rw [Addr.add_lit]
  exact h2
set_option maxHeartbeats 400000 in
theorem l1Own_w (b off n c : Nat) (l : List Int) (w : World) (hn : l.length = n) (hc : CellsAt w (some ⟨b, off, none⟩) (ints l)) (hl : n ≤ 1048576) :
    Calls Tryz.prog 50 #[.slice (some ⟨b, off, none⟩) n c] w (RetRow 3 1 w.heap.size w n (ints l)) := by
  have HC := Lib.hid (cells_newsW (hc.keep (Joins.below_alloc1 w (.cells #[] 3))))
  have HO := Lib.hid (World.ownsRow_made (base := w.heap.size) (e := 3) (size := 1) w #[] 0 (Nat.le_refl _) (by unfold maxLen; omega) rfl)
  have HB := Lib.hid (Joins.below_alloc1 w (.cells #[] 3))
  clear hc
  go_enter Tryz.func50, Tryz.ntmps50
  go_wp2_with (at_builtin; refine app_outs rfl _ _ rfl w.heap.size _ 0 [] rfl HO.out ⟨b, off, none⟩ n c l rfl hn HC.out (by omega) (by simp) ?_; intro v1 w1 hown1 hg1)
  have hb1 := HB.out.grown hg1 (by simp) (fun k hk => by cases hk; exact Nat.le_refl _)
  have HO1 := Lib.hid hown1; have HB1 := Lib.hid hb1
  clear HO HB HC hown1 hg1 hb1
  go_wp2
  go_ret
  exact ⟨_, rfl, by have := HO1.out; simpa using this, HB1.out⟩

/-- an append of one entry to a row of the call's own -/
theorem app_den {ops : Array Oper} {rest : List Oper} {o : Oper} {a : Act} {w : World} {Q : Exit → Act → World → Prop} (hgd : o.guard = none) (s x : Operand)
    (ho : o.op = .call { callee := .builtin .append, args := #[s, x], argTypes := #[24, 24] })
    (base : Nat) (v : Value) (n : Nat) (xs : List Value) (hs : a.eval s = v) (hown : w.ownsRow base 39 2 v n xs)
    (ad : Addr) (c : Nat) (qa : Option Addr) (qn qc : Nat) (qt : ByteArray) (hx : a.eval x = .slice (some ad) 1 c) (hnews : ∀ j u, [Value.slice qa qn qc, .string qt][j]? = some u → w.cell? (ad.add j) = some u)
    (hnm : n + 1 ≤ 4194304) (hbase : base ≤ w.heap.size)
    (h : ∀ v' w', w'.ownsRow base 39 2 v' (n + 1) (xs ++ [Value.slice qa qn qc, .string qt]) → w.grownBy w' v.ownBlock → wpList Tryz.prog ops Q rest (a.put o.dst v') w') : wpList Tryz.prog ops Q (o :: rest) a w := by
  obtain ⟨i0, hi, hz0, hz1, hz2⟩ := info_parts Tryz.infoDen
  exact wpList_append_own w hgd s x 24 ho base 39 i0 (.agg #[.slice none 0 0, .string ⟨#[]⟩]) 2 40 Tryz.underlying24 hi hz0 hz1 hz2 rfl (by decide) v n xs hs hown ad 1 c [Value.slice qa qn qc, .string qt] hx rfl hnews
    (by intro u hu; simp only [List.mem_cons, List.not_mem_nil, or_false] at hu; rcases hu with rfl | rfl <;> rfl)
    (by unfold maxLen; omega) (by omega) hbase (fun v' w' h1 h2 _ => h v' w' h1 h2)
theorem step_app_den {ops : Array Oper} {o : Oper} {a : Act} {w : World} {K : Act → World → Prop} {Q : Exit → Act → World → Prop} {E : Prop} (hgd : o.guard = none) (s x : Operand)
    (ho : o.op = .call { callee := .builtin .append, args := #[s, x], argTypes := #[24, 24] })
    (base : Nat) (v : Value) (n : Nat) (xs : List Value) (hs : a.eval s = v) (hown : w.ownsRow base 39 2 v n xs)
    (ad : Addr) (c : Nat) (qa : Option Addr) (qn qc : Nat) (qt : ByteArray) (hx : a.eval x = .slice (some ad) 1 c) (hnews : ∀ j u, [Value.slice qa qn qc, .string qt][j]? = some u → w.cell? (ad.add j) = some u)
    (hnm : n + 1 ≤ 4194304) (hbase : base ≤ w.heap.size)
    (h : ∀ v' w', w'.ownsRow base 39 2 v' (n + 1) (xs ++ [Value.slice qa qn qc, .string qt]) → w.grownBy w' v.ownBlock → K (a.put o.dst v') w') : if Region.wanted o (yielded ops a.tmps) = true then Oper.wp Tryz.prog o a w K Q else E := by
  have hw : Region.wanted o (yielded ops a.tmps) = true := by simp [Region.wanted, hgd]
  rw [if_pos hw]
  obtain ⟨i0, hi, hz0, hz1, hz2⟩ := info_parts Tryz.infoDen
  exact wp_append_own w s x 24 ho base 39 i0 (.agg #[.slice none 0 0, .string ⟨#[]⟩]) 2 40 Tryz.underlying24 hi hz0 hz1 hz2 rfl (by decide) v n xs hs hown ad 1 c [Value.slice qa qn qc, .string qt] hx rfl hnews
    (by intro u hu; simp only [List.mem_cons, List.not_mem_nil, or_false] at hu; rcases hu with rfl | rfl <;> rfl)
    (by unfold maxLen; omega) (by omega) hbase (fun v' w' h1 h2 _ => h v' w' h1 h2)
theorem den_news (w : World) (u : Value) (qt : ByteArray) (E : TypeId) (b : Nat) (hb : b = w.heap.size) : ∀ j x, [u, .string qt][j]? = some x → (w.alloc (.cells #[u, .string qt] E)).cell? ((⟨b, 0, none⟩ : Addr).add j) = some x := by
  subst hb
  intro j x hj
  rw [Addr.add_lit, Nat.zero_add, World.cell?_alloc_mark]
  simpa using hj

end Go.Proofs.YtdidgaibgkdjoaaGreatDoor
