/-
  MEMORY: a row of folds of the call's own, which may be the tail of another: read, set, appended to.
-/
import Derived.Test.YtdidgaibgkdjoaaGreatDoorDrawKnown
import Derived.ArgAppend
namespace Go.Proofs.YtdidgaibgkdjoaaGreatDoor
open Go.RowKit

theorem Tryz.infoFol : (Tryz.prog.info? 64).map (fun i => (i.zero, i.size, i.bytes)) = some (some (.agg #[.int .i64 0, .string ⟨#[]⟩]), 2, 24) := by kernel_rfl
/-- a key and a short text at each place -/
def FoldsOk (xs : List Value) (n : Nat) : Prop := xs.length = n * 2 ∧ ∀ j, j < n → ∃ (k : Int) (t : ByteArray), xs[j * 2]? = some (.int .i64 k) ∧ xs[j * 2 + 1]? = some (.string t) ∧ t.size ≤ 9
/-- the row -/
def FRow (w : World) (base g off : Nat) (v : Value) (n : Nat) (xs : List Value) : Prop :=
  ∃ cap cur, v = .slice (some ⟨g, off, none⟩) n cap ∧ base ≤ g ∧ w.heap[g]? = some (.cells cur 64 (0, 0)) ∧ cur.size = off + cap * 2 ∧ n ≤ cap ∧ cap ≤ maxLen ∧ (off = 0 ∨ cap = n) ∧ (cur.toList.drop off).take (n * 2) = xs ∧ FoldsOk xs n
theorem FRow.lt {w : World} {base g off : Nat} {v : Value} {n : Nat} {xs : List Value} (h : FRow w base g off v n xs) : base ≤ g ∧ g < w.heap.size := by
  obtain ⟨cap, cur, _, h1, h2, _⟩ := h
  exact ⟨h1, (Array.getElem?_eq_some_iff.1 h2).1⟩
theorem FRow.kept {w w' : World} {base g off : Nat} {v : Value} {n : Nat} {xs : List Value} {r : Option Nat} (h : FRow w base g off v n xs) (hg : w.grownBy w' r) (hr : r ≠ some g) : FRow w' base g off v n xs := by
  have hlt := h.lt
  obtain ⟨cap, cur, e, h1, h2, h3⟩ := h
  exact ⟨cap, cur, e, h1, by rw [hg.block g hlt.2 (fun e => hr e.symm)]; exact h2, h3⟩
theorem FRow.keep {w w' : World} {base g off : Nat} {v : Value} {n : Nat} {xs : List Value} (h : FRow w base g off v n xs) (hb : Below w.heap.size w w') : FRow w' base g off v n xs :=
  h.kept (below_grown hb none) (by intro e; cases e)
theorem FRow.alloc {w : World} {base g off : Nat} {v : Value} {n : Nat} {xs : List Value} (h : FRow w base g off v n xs) (o : Obj) : FRow (w.alloc o) base g off v n xs := h.keep (Joins.below_alloc1 _ _)
theorem FRow.read {v0 : Value} {m c B : Nat} {a b : World} {base g off : Nat} {v : Value} {n : Nat} {xs : List Value} (h : FRow a base g off v n xs) (hd : Read v0 m c B a b) (hc : c < base) : FRow b base g off v n xs :=
  h.kept hd.2 (fun e => by have := h.lt.1; injection e with e; omega)
theorem FRow.cell {w : World} {base g off : Nat} {v : Value} {n : Nat} {xs : List Value} (h : FRow w base g off v n xs) {j : Nat} {u : Value} (hj : xs[j]? = some u) : w.cell? ⟨g, off + j, none⟩ = some u := by
  obtain ⟨cap, cur, _, _, h2, _, _, _, _, h3, h4, _⟩ := h
  have hl : j < n * 2 := by rw [← h4]; exact (List.getElem?_eq_some_iff.1 hj).1
  rw [← h3, List.getElem?_take_of_lt hl, List.getElem?_drop] at hj
  simp only [World.cell?, h2]
  simpa using hj
theorem FRow.own {w : World} {base g off : Nat} {v : Value} {n : Nat} {xs : List Value} (h : FRow w base g off v n xs) (h0 : off = 0) : w.ownsRow base 64 2 v n xs := by
  subst h0
  obtain ⟨cap, cur, rfl, h1, h2, h3, h4, h5, _, h6, h7, _⟩ := h
  exact ⟨h7, .inr ⟨g, cap, cur, rfl, h1, h2, h4, h5, by omega, by rw [List.drop_zero] at h6; exact h6⟩⟩
theorem FRow.of_own {w : World} {base : Nat} {v : Value} {n : Nat} {xs : List Value} (h : w.ownsRow base 64 2 v n xs) (hn : 1 ≤ n) (hk : FoldsOk xs n) : ∃ g, FRow w base g 0 v n xs := by
  rcases h.2 with ⟨_, h0⟩ | ⟨g, cap, cur, rfl, h1, h2, h3, h4, h5, h6⟩
  · omega
  · exact ⟨g, cap, cur, rfl, h1, h2, by omega, h3, h4, .inl rfl, by rw [List.drop_zero]; exact h6, hk⟩
theorem FRow.rows {w : World} {base g off : Nat} {v : Value} {n : Nat} {xs : List Value} (h : FRow w base g off v n xs) : ∃ a c, v = .slice (some ⟨g, off, none⟩) n c ∧ a = g := by
  obtain ⟨cap, _, e, _⟩ := h
  exact ⟨g, cap, e, rfl⟩
theorem FRow.lower {w : World} {b b' g off : Nat} {v : Value} {n : Nat} {xs : List Value} (h : FRow w b g off v n xs) (hb : b' ≤ b) : FRow w b' g off v n xs := by
  obtain ⟨cap, cur, e, h1, h2⟩ := h
  exact ⟨cap, cur, e, Nat.le_trans hb h1, h2⟩
theorem foldsOk_put {xs : List Value} {n : Nat} (h : FoldsOk xs n) (k : Int) (t : ByteArray) (ht : t.size ≤ 9) : FoldsOk (xs ++ [.int .i64 k, .string t]) (n + 1) := by
  refine ⟨by rw [List.length_append, h.1]; show n * 2 + 2 = _; omega, fun j hj => ?_⟩
  have hl := h.1
  rcases Nat.lt_or_ge j n with hlt | hge
  · obtain ⟨k', t', h1, h2, h3⟩ := h.2 j hlt
    exact ⟨k', t', by rw [List.getElem?_append_left (by omega)]; exact h1, by rw [List.getElem?_append_left (by omega)]; exact h2, h3⟩
  · obtain rfl : j = n := by omega
    exact ⟨k, t, by rw [List.getElem?_append_right (by omega), hl, Nat.sub_self]; rfl, by rw [List.getElem?_append_right (by omega), hl, show j * 2 + 1 - j * 2 = 1 by omega]; rfl, ht⟩
theorem foldsOk_cons {xs : List Value} {n : Nat} (h : FoldsOk xs n) (k : Int) (t : ByteArray) (ht : t.size ≤ 9) : FoldsOk ([.int .i64 k, .string t] ++ xs) (1 + n) := by
  refine ⟨by rw [List.length_append, h.1]; show 2 + n * 2 = _; omega, fun j hj => ?_⟩
  cases j with
  | zero => exact ⟨k, t, rfl, rfl, ht⟩
  | succ j =>
    obtain ⟨k', t', h1, h2, h3⟩ := h.2 j (by omega)
    exact ⟨k', t', by rw [show (j + 1) * 2 = j * 2 + 2 by omega]; exact h1, by rw [show (j + 1) * 2 + 1 = j * 2 + 1 + 2 by omega]; exact h2, h3⟩
theorem foldsOk_take {xs : List Value} {n : Nat} (h : FoldsOk xs n) (q : Nat) (hq : q ≤ n) : FoldsOk (xs.take (q * 2)) q := by
  refine ⟨by rw [List.length_take, h.1]; omega, fun j hj => ?_⟩
  obtain ⟨k', t', h1, h2, h3⟩ := h.2 j (by omega)
  exact ⟨k', t', by rw [List.getElem?_take_of_lt (by omega)]; exact h1, by rw [List.getElem?_take_of_lt (by omega)]; exact h2, h3⟩
theorem foldsOk_one {xs : List Value} {n : Nat} (h : FoldsOk xs n) : ∀ u ∈ xs, u.oneCell' = true := by
  intro u hu
  obtain ⟨i, hi⟩ := List.mem_iff_getElem?.1 hu
  have hl : i < n * 2 := by rw [← h.1]; exact (List.getElem?_eq_some_iff.1 hi).1
  obtain ⟨k', t', h1, h2, h3⟩ := h.2 (i / 2) (by omega)
  rcases Nat.mod_two_eq_zero_or_one i with e | e
  · rw [show i / 2 * 2 = i by omega, hi] at h1; cases h1; rfl
  · rw [show i / 2 * 2 + 1 = i by omega, hi] at h2; cases h2; rfl
theorem foldsOk_key {xs : List Value} {n : Nat} (h : FoldsOk xs n) (i : Nat) (k : Int) : FoldsOk (xs.set (i * 2) (.int .i64 k)) n := by
  refine ⟨by rw [List.length_set]; exact h.1, fun j hj => ?_⟩
  obtain ⟨k', t', h1, h2, h3⟩ := h.2 j hj
  rcases Nat.decEq j i with hne | rfl
  · exact ⟨k', t', by rw [List.getElem?_set_ne (by omega)]; exact h1, by rw [List.getElem?_set_ne (by omega)]; exact h2, h3⟩
  · exact ⟨k, t', by rw [List.getElem?_set_self (List.getElem?_eq_some_iff.1 h1).1], by rw [List.getElem?_set_ne (by omega)]; exact h2, h3⟩
theorem foldsOk_text {xs : List Value} {n : Nat} (h : FoldsOk xs n) (i : Nat) (t : ByteArray) (ht : t.size ≤ 9) : FoldsOk (xs.set (i * 2 + 1) (.string t)) n := by
  refine ⟨by rw [List.length_set]; exact h.1, fun j hj => ?_⟩
  obtain ⟨k', t', h1, h2, h3⟩ := h.2 j hj
  rcases Nat.decEq j i with hne | rfl
  · exact ⟨k', t', by rw [List.getElem?_set_ne (by omega)]; exact h1, by rw [List.getElem?_set_ne (by omega)]; exact h2, h3⟩
  · exact ⟨k', t, by rw [List.getElem?_set_ne (by omega)]; exact h1, by rw [List.getElem?_set_self (List.getElem?_eq_some_iff.1 h2).1], ht⟩
/-- a cell of the row is written -/
theorem FRow.set {w : World} {base g off : Nat} {v : Value} {n : Nat} {xs : List Value} (h : FRow w base g off v n xs) (i : Nat) (u : Value) (hk : FoldsOk (xs.set i u) n) : FRow (w.setCell ⟨g, off + i, none⟩ u) base g off v n (xs.set i u) := by
  obtain ⟨cap, cur, e, h1, h2, h3, h4, h5, h6, h7, h8⟩ := h
  refine ⟨cap, cur.setIfInBounds (off + i) u, e, h1, heap_setCell_same _ _ _ _ _ _ h2, by rw [Array.size_setIfInBounds]; exact h3, h4, h5, h6, ?_, hk⟩
  rw [Array.toList_setIfInBounds, List.drop_set, if_neg (by omega), List.take_set, ← h7, Nat.add_sub_cancel_left]
/-- an append of one fold -/
theorem app_frow {ops : Array Oper} {rest : List Oper} {o : Oper} {a : Act} {w : World} {Q : Exit → Act → World → Prop} (hgd : o.guard = none) (s x : Operand)
    (ho : o.op = .call { callee := .builtin .append, args := #[s, x], argTypes := #[56, 56] })
    (base g off : Nat) (v : Value) (n : Nat) (xs : List Value) (hs : a.eval s = v) (hF : FRow w base g off v n xs)
    (ad : Addr) (c : Nat) (k : Int) (t : ByteArray) (ht : t.size ≤ 9) (hx : a.eval x = .slice (some ad) 1 c) (hnews : ∀ j u, [Value.int .i64 k, .string t][j]? = some u → w.cell? (ad.add j) = some u)
    (hnm : n + 1 ≤ 4194304) (hbase : base ≤ w.heap.size)
    (h : ∀ v' w', (∃ g' o' xs', FRow w' base g' o' v' (n + 1) xs') → w.grownBy w' (some g) → wpList Tryz.prog ops Q rest (a.put o.dst v') w') : wpList Tryz.prog ops Q (o :: rest) a w := by
  obtain ⟨i0, hi, hz0, hz1, hz2⟩ := info_parts Tryz.infoFol
  have h1c : ∀ u ∈ [Value.int .i64 k, .string t], u.oneCell' = true := by intro u hu; simp only [List.mem_cons, List.not_mem_nil, or_false] at hu; rcases hu with rfl | rfl <;> rfl
  by_cases h0 : off = 0
  · have hO := hF.own h0
    obtain ⟨cap, cur, e, h1, h2, h3, h4, h5, h6, h7, h8⟩ := hF
    subst e
    exact wpList_append_own w hgd s x 56 ho base 64 i0 (.agg #[.int .i64 0, .string ⟨#[]⟩]) 2 24 Tryz.underlying56 hi hz0 hz1 hz2 rfl (by decide) _ n xs hs hO ad 1 c [Value.int .i64 k, .string t] hx rfl hnews h1c
      (by unfold maxLen; omega) (by omega) hbase (fun v' w' e1 e2 _ => by
        obtain ⟨g', hg'⟩ := FRow.of_own e1 (by omega) (foldsOk_put h8 k t ht)
        exact h v' w' ⟨g', 0, _, hg'⟩ e2)
  · have hc := fun j u hj => hF.cell (j := j) (u := u) hj
    obtain ⟨cap, cur, e, h1, h2, h3, h4, h5, h6, h7, h8⟩ := hF
    subst e
    have hcn : cap = n := h6.resolve_left h0
    exact wpList_append_grows w hgd s x 56 ho 64 i0 (.agg #[.int .i64 0, .string ⟨#[]⟩]) 2 24 Tryz.underlying56 hi hz0 hz1 hz2 rfl (by decide) (some ⟨g, off, none⟩) n cap xs hs (by intro e; cases e) h8.1
      (fun b hb j u hj => by cases hb; rw [Addr.add_lit]; exact hc j u hj) ad 1 c [Value.int .i64 k, .string t] hx rfl hnews h1c (by omega) (by unfold maxLen; omega) (by omega) (fun v' w' e1 e2 => by
        obtain ⟨g', hg'⟩ := FRow.of_own (own_lower2 e1 hbase) (by omega) (foldsOk_put h8 k t ht)
        exact h v' w' ⟨g', 0, _, hg'⟩ ⟨e2.os, e2.tape, e2.output, e2.size, fun k hk _ => e2.block k hk (by intro e; cases e)⟩)
/-- an append of a row's head behind one fold -/
theorem app_fhead {ops : Array Oper} {rest : List Oper} {o : Oper} {a : Act} {w : World} {Q : Exit → Act → World → Prop} (hgd : o.guard = none) (s x : Operand)
    (ho : o.op = .call { callee := .builtin .append, args := #[s, x], argTypes := #[56, 56] })
    (base g off : Nat) (v v1 : Value) (n q c : Nat) (xs : List Value) (k : Int) (t : ByteArray) (ht : t.size ≤ 9) (hs : a.eval s = v1) (hO : w.ownsRow base 64 2 v1 1 [.int .i64 k, .string t]) (hF : FRow w base g off v n xs) (hq : q ≤ n)
    (hx : a.eval x = .slice (some ⟨g, off, none⟩) q c)
    (hnm : n + 1 ≤ 4194304) (hbase : base ≤ w.heap.size)
    (h : ∀ v' w', (∃ g' o' xs', FRow w' base g' o' v' (1 + q) xs') → w.grownBy w' v1.ownBlock → wpList Tryz.prog ops Q rest (a.put o.dst v') w') : wpList Tryz.prog ops Q (o :: rest) a w := by
  obtain ⟨i0, hi, hz0, hz1, hz2⟩ := info_parts Tryz.infoFol
  have hk : FoldsOk xs n := by obtain ⟨_, _, _, _, _, _, _, _, _, _, hk⟩ := hF; exact hk
  have hkq := foldsOk_take hk q hq
  exact wpList_append_own w hgd s x 56 ho base 64 i0 (.agg #[.int .i64 0, .string ⟨#[]⟩]) 2 24 Tryz.underlying56 hi hz0 hz1 hz2 rfl (by decide) v1 1 [.int .i64 k, .string t] hs hO ⟨g, off, none⟩ q c (xs.take (q * 2)) hx hkq.1
    (fun j u hj => by
      rw [Addr.add_lit]
      have hl : j < q * 2 := by rw [← hkq.1]; exact (List.getElem?_eq_some_iff.1 hj).1
      rw [List.getElem?_take_of_lt hl] at hj
      exact hF.cell hj) (foldsOk_one hkq)
    (by unfold maxLen; omega) (by omega) hbase (fun v' w' e1 e2 _ => by
      obtain ⟨g', hg'⟩ := FRow.of_own e1 (by omega) (foldsOk_cons hkq k t ht)
      exact h v' w' ⟨g', 0, _, hg'⟩ e2)

end Go.Proofs.YtdidgaibgkdjoaaGreatDoor
