/-
  PLAIN: a slice of the call's own of what is said of hidden entries: two integers and a slice of integers each.
-/
import Derived.Test.YtdidgaibgkdjoaaGreatDoorGrD
import Derived.Test.YtdidgaibgkdjoaaGreatDoorGrE
import Derived.Test.YtdidgaibgkdjoaaGreatDoorPlainShad
namespace Go.Proofs.YtdidgaibgkdjoaaGreatDoor
open Go.RowKit

def outs (L : List Sh) : List (List Int) := L.map (·.2.2)
theorem outs_len (L : List Sh) : (outs L).length = L.length := by simp [outs]
theorem outs_at (L : List Sh) (k : Nat) (h : k < L.length) : (outs L)[k]'(by rw [outs_len]; exact h) = (L[k]).2.2 := by simp [outs]
/-- the two integers of each -/
def ShCells (xs : List Value) (L : List Sh) : Prop := ∀ j (h : j < L.length), xs[j * 3]? = some (.int .i64 (L[j]).1) ∧ xs[j * 3 + 1]? = some (.int .i64 (L[j]).2.1)
def OwnSh (w : World) (lo hi : Nat) (v : Value) (L : List Sh) : Prop := ∃ xs, OwnNest 99 3 2 w lo hi v (outs L) xs ∧ ShCells xs L
theorem OwnSh.keep {w w' : World} {lo hi : Nat} {v : Value} {L : List Sh} (h : OwnSh w lo hi v L) (hb : Below w.heap.size w w') : OwnSh w' lo hi v L := by
  obtain ⟨xs, h1, h2⟩ := h
  exact ⟨xs, h1.keep hb, h2⟩
theorem OwnSh.wid {w w' : World} {lo hi a b : Nat} {v : Value} {L : List Sh} (h : OwnSh w lo hi v L) (hw : Wid a b w w') (hd : hi ≤ a ∨ b ≤ lo) : OwnSh w' lo hi v L := by
  obtain ⟨xs, h1, h2⟩ := h
  exact ⟨xs, h1.wid hw hd, h2⟩
theorem OwnSh.drew {w : World} {lo hi : Nat} {v : Value} {L : List Sh} (h : OwnSh w lo hi v L) : OwnSh w.drew lo hi v L := h

/-- as it reads -/
def Shs (w : World) (v : Value) (L : List Sh) : Prop :=
  ∃ a cap, v = .slice a L.length cap ∧ L.length ≤ cap ∧ cap ≤ maxLen ∧ ∀ (k : Nat) (h : k < L.length), ∃ b off u, a = some ⟨b, off, none⟩ ∧ w.cell? ⟨b, off + k * 3, none⟩ = some (.int .i64 (L[k]).1) ∧ w.cell? ⟨b, off + k * 3 + 1, none⟩ = some (.int .i64 (L[k]).2.1) ∧ w.cell? ⟨b, off + k * 3 + 2, none⟩ = some u ∧ Rows w u (L[k]).2.2.length 1 (ints (L[k]).2.2)
theorem Shs.keep {w w' : World} {v : Value} {L : List Sh} (h : Shs w v L) (hb : Below w.heap.size w w') : Shs w' v L := by
  obtain ⟨a, cap, h1, h2, h3, h5⟩ := h
  refine ⟨a, cap, h1, h2, h3, fun k hk => ?_⟩
  obtain ⟨b, off, u, e1, e2, e3, e4, e5⟩ := h5 k hk
  exact ⟨b, off, u, e1, keepcE hb e2, keepcE hb e3, keepcE hb e4, e5.keep hb⟩
theorem OwnSh.shs {w : World} {lo hi : Nat} {v : Value} {L : List Sh} (h : OwnSh w lo hi v L) : Shs w v L := by
  obtain ⟨xs, ⟨h1, U, h2⟩, h3⟩ := h
  obtain ⟨a, cap, e, h4, h5, h6, h7, h8⟩ := h1.rows
  rw [outs_len] at e h4
  refine ⟨a, cap, e, h4, h5, fun k hk => ?_⟩
  obtain ⟨e1, e2, _⟩ := h2.1 k (by rw [outs_len]; exact hk)
  rw [outs_at L k hk] at e2
  obtain ⟨e3, e4⟩ := h3 k hk
  obtain ⟨b, off, q1, c1⟩ := h8 _ _ e3
  obtain ⟨b2, off2, q2, c2⟩ := h8 _ _ e4
  obtain ⟨b3, off3, q3, c3⟩ := h8 _ _ e1
  cases q1
  cases q2
  cases q3
  exact ⟨_, _, U k, rfl, c1, by simpa [Nat.add_assoc] using c2, by simpa [Nat.add_assoc] using c3, Rows.of_own e2⟩
theorem sh_form {w : World} {v : Value} {L : List Sh} (h : Shs w v L) : ∃ a cap, v = .slice a L.length cap ∧ L.length ≤ cap ∧ cap ≤ maxLen := by
  obtain ⟨a, cap, h1, h2, h3, _⟩ := h
  exact ⟨a, cap, h1, h2, h3⟩
theorem sh_at {w : World} {a : Option Addr} {n cap : Nat} {L : List Sh} (h : Shs w (.slice a n cap) L) (k : Nat) (hk : k < L.length) :
    ∃ b off u, a = some ⟨b, off, none⟩ ∧ w.cell? ⟨b, off + k * 3, none⟩ = some (.int .i64 (L[k]).1) ∧ w.cell? ⟨b, off + k * 3 + 1, none⟩ = some (.int .i64 (L[k]).2.1) ∧ w.cell? ⟨b, off + k * 3 + 2, none⟩ = some u ∧ Rows w u (L[k]).2.2.length 1 (ints (L[k]).2.2) := by
  obtain ⟨a', cap', h1, h2, h3, h5⟩ := h
  cases h1
  exact h5 k hk

/-- marked one after the other -/
def marksSh : Int → List Sh → List Sh
  | _, [] => []
  | k, p :: r => (k, k + 1, marksI (k + 2) p.2.2.length) :: marksSh (k + (2 + p.2.2.length : Nat)) r
def szSh : List Sh → Nat
  | [] => 0
  | p :: r => (2 + p.2.2.length) + szSh r
theorem marksSh_len : ∀ (k : Int) (L : List Sh), (marksSh k L).length = L.length
  | _, [] => rfl
  | k, p :: r => by show (marksSh _ r).length + 1 = r.length + 1; rw [marksSh_len _ r]
theorem szSh_take : ∀ (L : List Sh) (k : Nat) (h : k < L.length), szSh (L.take (k + 1)) = szSh (L.take k) + (2 + (L[k]).2.2.length)
  | [], k, h => by simp at h
  | p :: r, 0, _ => by show (2 + p.2.2.length) + szSh (r.take 0) = 0 + (2 + p.2.2.length); simp [szSh]
  | p :: r, k + 1, h => by
    show (2 + p.2.2.length) + szSh (r.take (k + 1)) = (2 + p.2.2.length) + szSh (r.take k) + (2 + (r[k]'(by simpa using h)).2.2.length)
    have := szSh_take r k (by simpa using h)
    omega
theorem marksSh_at : ∀ (a : Int) (L : List Sh) (k : Nat) (h : k < L.length), (marksSh a L)[k]'(by rw [marksSh_len]; exact h) = (a + (szSh (L.take k) : Nat), a + (szSh (L.take k) : Nat) + 1, marksI (a + (szSh (L.take k) : Nat) + 2) (L[k]).2.2.length)
  | _, [], k, h => by simp at h
  | a, p :: r, 0, _ => by show (a, a + 1, marksI (a + 2) p.2.2.length) = _; simp [szSh]
  | a, p :: r, k + 1, h => by
    show (marksSh (a + (2 + p.2.2.length : Nat)) r)[k]'_ = _
    rw [marksSh_at (a + (2 + p.2.2.length : Nat)) r k (by simpa using h)]
    have e : a + ((2 + p.2.2.length : Nat) : Int) + ((szSh (r.take k) : Nat) : Int) = a + ((szSh ((p :: r).take (k + 1)) : Nat) : Int) := by
      rw [show szSh ((p :: r).take (k + 1)) = (2 + p.2.2.length) + szSh (r.take k) from rfl]
      omega
    rw [e]
    rfl
theorem szSh_le {L : List Sh} {m : Nat} (h : ∀ q ∈ L, q.2.2.length ≤ m) : szSh L ≤ L.length * (2 + m) := by
  induction L with
  | nil => exact Nat.zero_le _
  | cons p r ih =>
    show (2 + p.2.2.length) + szSh r ≤ (r.length + 1) * (2 + m)
    have h1 := ih (fun q hq => h q (List.mem_cons_of_mem _ hq))
    have h2 := h p List.mem_cons_self
    rw [Nat.add_mul, Nat.one_mul]
    omega
theorem szSh_take_le (L : List Sh) (k : Nat) : szSh (L.take k) ≤ szSh L := by
  induction L generalizing k with
  | nil => simp [szSh]
  | cons p r ih =>
    cases k with
    | zero => exact Nat.zero_le _
    | succ k => show (2 + p.2.2.length) + szSh (r.take k) ≤ (2 + p.2.2.length) + szSh r; have := ih k; omega

/-- the first k are marked -/
def halfSh (k0 : Int) (L : List Sh) (k : Nat) : List Sh := (marksSh k0 L).take k ++ L.drop k
theorem halfSh_len (k0 : Int) (L : List Sh) (k : Nat) (h : k ≤ L.length) : (halfSh k0 L k).length = L.length := by
  unfold halfSh; rw [List.length_append, List.length_take, List.length_drop, marksSh_len]; omega
theorem halfSh_lo (k0 : Int) (L : List Sh) (k j : Nat) (hk : k ≤ L.length) (h : j < k) : (halfSh k0 L k)[j]'(by rw [halfSh_len _ _ _ hk]; omega) = (marksSh k0 L)[j]'(by rw [marksSh_len]; omega) := by
  unfold halfSh
  rw [List.getElem_append_left (by rw [List.length_take, marksSh_len]; omega), List.getElem_take]
theorem halfSh_hi (k0 : Int) (L : List Sh) (k j : Nat) (hk : k ≤ j) (h : j < L.length) : (halfSh k0 L k)[j]'(by rw [halfSh_len _ _ _ (by omega)]; omega) = L[j] := by
  unfold halfSh
  have hl : ((marksSh k0 L).take k).length = k := by rw [List.length_take, marksSh_len]; omega
  rw [List.getElem_append_right (by rw [hl]; exact hk), List.getElem_drop]
  congr 1
  omega
theorem halfSh_next (k0 : Int) (L : List Sh) (k : Nat) (h : k < L.length) : ∀ j (hj : j < L.length), j ≠ k → (halfSh k0 L (k + 1))[j]'(by rw [halfSh_len _ _ _ (by omega)]; exact hj) = (halfSh k0 L k)[j]'(by rw [halfSh_len _ _ _ (by omega)]; exact hj) := by
  intro j hj hne
  rcases Nat.lt_or_ge j k with h' | h'
  · rw [halfSh_lo k0 L (k + 1) j (by omega) (by omega), halfSh_lo k0 L k j (by omega) h']
  · rw [halfSh_hi k0 L (k + 1) j (by omega) hj, halfSh_hi k0 L k j h' hj]
theorem halfSh_all (k0 : Int) (L : List Sh) : halfSh k0 L L.length = marksSh k0 L := by
  unfold halfSh
  rw [List.drop_eq_nil_of_le (Nat.le_refl _), List.append_nil, List.take_of_length_le (by rw [marksSh_len]; exact Nat.le_refl _)]
theorem halfSh_zero (k0 : Int) (L : List Sh) : halfSh k0 L 0 = L := by simp [halfSh]
theorem shCells_next {k0 : Int} {L : List Sh} {k : Nat} {ys : List Value} (h : ShCells ys (halfSh k0 L k)) (hk : k < L.length) (hy : ys.length = L.length * 3) :
    ShCells ((ys.set (k * 3) (.int .i64 (k0 + (szSh (L.take k) : Nat)))).set (k * 3 + 1) (.int .i64 (k0 + (szSh (L.take k) : Nat) + 1))) (halfSh k0 L (k + 1)) := by
  intro j hj
  rw [halfSh_len _ _ _ (by omega)] at hj
  by_cases he : j = k
  · subst he
    rw [halfSh_lo k0 L (j + 1) j (by omega) (by omega), marksSh_at k0 L j hk]
    refine ⟨?_, ?_⟩
    · rw [List.getElem?_set_ne (by omega), List.getElem?_set_self (by omega)]
    · rw [List.getElem?_set_self (by rw [List.length_set]; omega)]
  · rw [halfSh_next k0 L k hk j hj he]
    obtain ⟨e1, e2⟩ := h j (by rw [halfSh_len _ _ _ (by omega)]; exact hj)
    refine ⟨?_, ?_⟩
    · rw [List.getElem?_set_ne (by omega), List.getElem?_set_ne (by omega)]; exact e1
    · rw [List.getElem?_set_ne (by omega), List.getElem?_set_ne (by omega)]; exact e2
theorem Inner.setInts {w : World} {lo hi k : Nat} {xs : List Value} {L : List (List Int)} {U : Nat → Value} (h : Inner w lo hi xs 3 2 L U) (a b : Value) : Inner w lo hi ((xs.set (k * 3) a).set (k * 3 + 1) b) 3 2 L U :=
  ⟨fun j hj => ⟨by rw [List.getElem?_set_ne (by omega), List.getElem?_set_ne (by omega)]; exact (h.1 j hj).1, (h.1 j hj).2⟩, h.2⟩

theorem Tryz.infoSh : (Tryz.prog.info? 99).map (fun i => (i.zero, i.size, i.bytes)) = some (some (.agg #[.int .i64 0, .int .i64 0, .slice none 0 0]), 3, 40) := by kernel_rfl
theorem sh_news (w : World) (x y : Int) (u : Value) (E : TypeId) (b : Nat) (hb : b = w.heap.size) : ∀ j q, [Value.int .i64 x, .int .i64 y, u][j]? = some q → (w.alloc (.cells #[.int .i64 x, .int .i64 y, u] E)).cell? ((⟨b, 0, none⟩ : Addr).add j) = some q := by
  intro j q hj
  subst hb
  rw [Addr.add_lit, Nat.zero_add, World.cell?_alloc_mark]
  simpa using hj
theorem app_sh {ops : Array Oper} {rest : List Oper} {o : Oper} {a : Act} {w : World} {Q : Exit → Act → World → Prop} (hgd : o.guard = none) (s x : Operand)
    (ho : o.op = .call { callee := .builtin .append, args := #[s, x], argTypes := #[44, 44] })
    (base : Nat) (v : Value) (n : Nat) (xs : List Value) (hs : a.eval s = v) (hown : w.ownsRow base 99 3 v n xs)
    (ad : Addr) (c : Nat) (p q : Int) (ua : Option Addr) (ul uc : Nat) (hx : a.eval x = .slice (some ad) 1 c) (hnews : ∀ j u, [Value.int .i64 p, .int .i64 q, .slice ua ul uc][j]? = some u → w.cell? (ad.add j) = some u)
    (hnm : n + 1 ≤ 4194304) (hbase : base ≤ w.heap.size)
    (h : ∀ v' w', w'.ownsRow base 99 3 v' (n + 1) (xs ++ [Value.int .i64 p, .int .i64 q, .slice ua ul uc]) → w.grownBy w' v.ownBlock → wpList Tryz.prog ops Q rest (a.put o.dst v') w') : wpList Tryz.prog ops Q (o :: rest) a w := by
  obtain ⟨i0, hi, hz0, hz1, hz2⟩ := info_parts Tryz.infoSh
  exact wpList_append_own w hgd s x 44 ho base 99 i0 (.agg #[.int .i64 0, .int .i64 0, .slice none 0 0]) 3 40 Tryz.underlying44 hi hz0 hz1 hz2 rfl (by decide) v n xs hs hown ad 1 c [Value.int .i64 p, .int .i64 q, .slice ua ul uc] hx rfl hnews
    (by intro u hu; simp only [List.mem_cons, List.not_mem_nil, or_false] at hu; rcases hu with rfl | rfl | rfl <;> rfl)
    (by unfold maxLen; omega) (by omega) hbase (fun v' w' h1 h2 _ => h v' w' h1 h2)
theorem shCells_snoc {xs : List Value} {L : List Sh} {p : Sh} {u : Value} (h : ShCells xs L) (hx : xs.length = L.length * 3) : ShCells (xs ++ [.int .i64 p.1, .int .i64 p.2.1, u]) (L ++ [p]) := by
  intro j hj
  rw [List.length_append, List.length_singleton] at hj
  by_cases he : j < L.length
  · obtain ⟨e1, e2⟩ := h j he
    rw [List.getElem_append_left he]
    refine ⟨?_, ?_⟩
    · rw [List.getElem?_append_left (by omega)]; exact e1
    · rw [List.getElem?_append_left (by omega)]; exact e2
  · obtain rfl : j = L.length := by omega
    have e : (L ++ [p])[L.length]'(by rw [List.length_append, List.length_singleton]; omega) = p := by
      rw [List.getElem_append_right (Nat.le_refl _)]; simp
    rw [e]
    refine ⟨?_, ?_⟩
    · rw [List.getElem?_append_right (by omega), hx, show L.length * 3 - L.length * 3 = 0 by omega]; rfl
    · rw [List.getElem?_append_right (by omega), hx, show L.length * 3 + 1 - L.length * 3 = 1 by omega]; rfl
theorem OwnSh.of {w : World} {lo lo' : Nat} {v : Value} {L : List Sh} {xs : List Value} {U : Nat → Value} (h : w.ownsRow lo 99 3 v L.length xs) (hi : Inner w lo w.heap.size xs 3 2 (outs L) U) (hc : ShCells xs L) (hl : lo' ≤ lo) : OwnSh w lo' w.heap.size v L :=
  ⟨xs, OwnNest.of (by rw [outs_len]; exact h) hi hl, hc⟩
theorem OwnSh.nil (w : World) (lo : Nat) : OwnSh w lo w.heap.size (.slice none 0 0) [] := ⟨[], OwnNest.nil _ _ _ _ _, fun j hj => absurd hj (Nat.not_lt_zero j)⟩
/-- what is said of hidden entries, laid anew -/
def RetSh (w : World) (L : List Sh) (y : Bool) (e : Ending) (w' : World) : Prop := ∃ v, e = .returned (.tuple #[v, .bool y]) ∧ OwnSh w' w.heap.size w'.heap.size v L ∧ Below w.heap.size w w'

end Go.Proofs.YtdidgaibgkdjoaaGreatDoor
