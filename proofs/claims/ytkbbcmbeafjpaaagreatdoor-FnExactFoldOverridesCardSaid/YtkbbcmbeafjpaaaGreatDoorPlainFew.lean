/-
  PLAIN: the best segmentation (fewest untranslated strokes, then fewest pieces), place by place from the end.
-/
import Derived.Test.YtkbbcmbeafjpaaaGreatDoorPlainSeg
namespace Go.Proofs.YtkbbcmbeafjpaaaGreatDoor
open Go.RowKit

/-- untranslated strokes, pieces, and the strokes of the first piece (0: an untranslated stroke) -/
abbrev T3 := Nat × Nat × Nat
def t3 (T : List T3) (k : Nat) : T3 := T.getD k (0, 0, 0)
/-- the best beginning at i with at most n strokes; T holds the best from i + 1 on -/
def scanC (l : List Ent) (o : List Int) (i : Nat) (T : List T3) : Nat → T3
  | 0 => ((t3 T 0).1 + 1, (t3 T 0).2.1 + 1, 0)
  | n + 1 => if Pl.hasD l ((o.drop i).take (n + 1)) = true ∧ 1000 * (t3 T n).1 + (t3 T n).2.1 + 1 ≤ 1000 * (scanC l o i T n).1 + (scanC l o i T n).2.1 then ((t3 T n).1, (t3 T n).2.1 + 1, n + 1) else scanC l o i T n
/-- the best from each of the last k places on, and from the end on -/
def costs (l : List Ent) (o : List Int) : Nat → List T3
  | 0 => [(0, 0, 0)]
  | k + 1 => scanC l o (o.length - (k + 1)) (costs l o k) (min 6 (k + 1)) :: costs l o k
/-- the best from the place i on -/
def cst (l : List Ent) (o : List Int) (i : Nat) : T3 := t3 (costs l o (o.length - i)) 0
theorem costs_len (l : List Ent) (o : List Int) : ∀ k, (costs l o k).length = k + 1
  | 0 => rfl
  | k + 1 => by show (costs l o k).length + 1 = _; rw [costs_len l o k]
theorem costs_at (l : List Ent) (o : List Int) : ∀ k j, j ≤ k → t3 (costs l o k) j = t3 (costs l o (k - j)) 0
  | k, 0, _ => rfl
  | 0, j + 1, h => absurd h (by omega)
  | k + 1, j + 1, h => by
    rw [show k + 1 - (j + 1) = k - j by omega]
    exact costs_at l o k j (by omega)
/-- the candidates at i are the best behind it -/
theorem cst_at (l : List Ent) (o : List Int) (i n : Nat) (h : i + (n + 1) ≤ o.length) : t3 (costs l o (o.length - (i + 1))) n = cst l o (i + (n + 1)) := by
  rw [costs_at l o _ n (by omega)]
  unfold cst
  rw [show o.length - (i + 1) - n = o.length - (i + (n + 1)) by omega]
theorem cst_end (l : List Ent) (o : List Int) (i : Nat) (h : o.length ≤ i) : cst l o i = (0, 0, 0) := by
  unfold cst
  rw [show o.length - i = 0 by omega]
  rfl
/-- the best at i with at most n strokes in its first piece -/
def sc (l : List Ent) (o : List Int) (i n : Nat) : T3 := scanC l o i (costs l o (o.length - (i + 1))) n
theorem cst_sc (l : List Ent) (o : List Int) (i : Nat) (h : i < o.length) : cst l o i = sc l o i (min 6 (o.length - i)) := by
  unfold cst sc
  obtain ⟨k, hk⟩ : ∃ k, o.length - i = k + 1 := ⟨o.length - i - 1, by omega⟩
  rw [hk, show o.length - (i + 1) = k by omega]
  show scanC l o (o.length - (k + 1)) _ _ = _
  rw [show o.length - (k + 1) = i by omega]
theorem sc_zero (l : List Ent) (o : List Int) (i : Nat) (h : i < o.length) : sc l o i 0 = ((cst l o (i + 1)).1 + 1, (cst l o (i + 1)).2.1 + 1, 0) := by
  unfold sc
  show ((t3 _ 0).1 + 1, (t3 _ 0).2.1 + 1, 0) = _
  rw [cst_at l o i 0 (by omega)]
theorem sc_yes (l : List Ent) (o : List Int) (i n : Nat) (h : i + (n + 1) ≤ o.length) (h1 : Pl.hasD l ((o.drop i).take (n + 1)) = true) (h2 : 1000 * (cst l o (i + (n + 1))).1 + (cst l o (i + (n + 1))).2.1 + 1 ≤ 1000 * (sc l o i n).1 + (sc l o i n).2.1) :
    sc l o i (n + 1) = ((cst l o (i + (n + 1))).1, (cst l o (i + (n + 1))).2.1 + 1, n + 1) := by
  rw [← cst_at l o i n h] at h2 ⊢
  unfold sc at h2 ⊢
  conv => lhs; unfold scanC
  rw [if_pos ⟨h1, h2⟩]
theorem sc_no (l : List Ent) (o : List Int) (i n : Nat) (h : i + (n + 1) ≤ o.length) (h1 : ¬ (Pl.hasD l ((o.drop i).take (n + 1)) = true ∧ 1000 * (cst l o (i + (n + 1))).1 + (cst l o (i + (n + 1))).2.1 + 1 ≤ 1000 * (sc l o i n).1 + (sc l o i n).2.1)) :
    sc l o i (n + 1) = sc l o i n := by
  rw [← cst_at l o i n h] at h1
  unfold sc at h1 ⊢
  conv => lhs; unfold scanC
  rw [if_neg h1]
/-- bounds: no more of anything than strokes -/
theorem cst_le (l : List Ent) (o : List Int) : ∀ k i, o.length - i = k → (cst l o i).1 ≤ k ∧ (cst l o i).2.1 ≤ k ∧ (cst l o i).2.2 ≤ k ∧ (cst l o i).2.2 ≤ 6 := by
  intro k
  induction k using Nat.strongRecOn with
  | ind k ih =>
    intro i hi
    rcases Nat.lt_or_ge i o.length with h | h
    · rw [cst_sc l o i h]
      have H : ∀ n, n ≤ min 6 (o.length - i) → (sc l o i n).1 ≤ k ∧ (sc l o i n).2.1 ≤ k ∧ (sc l o i n).2.2 ≤ n := by
        intro n
        induction n with
        | zero =>
          intro _
          rw [sc_zero l o i h]
          have := ih (k - 1) (by omega) (i + 1) (by omega)
          exact ⟨by dsimp only; omega, by dsimp only; omega, Nat.le_refl _⟩
        | succ n ihn =>
          intro hn
          have h1 := ihn (by omega)
          by_cases hc : Pl.hasD l ((o.drop i).take (n + 1)) = true ∧ 1000 * (cst l o (i + (n + 1))).1 + (cst l o (i + (n + 1))).2.1 + 1 ≤ 1000 * (sc l o i n).1 + (sc l o i n).2.1
          · rw [sc_yes l o i n (by omega) hc.1 hc.2]
            have := ih (k - (n + 1)) (by omega) (i + (n + 1)) (by omega)
            exact ⟨by dsimp only; omega, by dsimp only; omega, Nat.le_refl _⟩
          · rw [sc_no l o i n (by omega) hc]
            exact ⟨h1.1, h1.2.1, by omega⟩
      have h2 := H (min 6 (o.length - i)) (Nat.le_refl _)
      exact ⟨h2.1, h2.2.1, by omega, by omega⟩
    · rw [cst_end l o i h]
      exact ⟨Nat.zero_le _, Nat.zero_le _, Nat.zero_le _, Nat.zero_le _⟩
theorem sc_le (l : List Ent) (o : List Int) (i : Nat) (h : i < o.length) : ∀ n, n ≤ 6 → i + n ≤ o.length → (sc l o i n).1 ≤ o.length - i ∧ (sc l o i n).2.1 ≤ o.length - i := by
  intro n
  induction n with
  | zero =>
    intro _ _
    rw [sc_zero l o i h]
    have := cst_le l o _ (i + 1) rfl
    exact ⟨by dsimp only; omega, by dsimp only; omega⟩
  | succ n ihn =>
    intro hn hn2
    have h1 := ihn (by omega) (by omega)
    by_cases hc : Pl.hasD l ((o.drop i).take (n + 1)) = true ∧ 1000 * (cst l o (i + (n + 1))).1 + (cst l o (i + (n + 1))).2.1 + 1 ≤ 1000 * (sc l o i n).1 + (sc l o i n).2.1
    · rw [sc_yes l o i n hn2 hc.1 hc.2]
      have := cst_le l o _ (i + (n + 1)) rfl
      exact ⟨by dsimp only; omega, by dsimp only; omega⟩
    · rw [sc_no l o i n hn2 hc]
      exact h1

/-- the piece that begins at i, its first piece having n strokes (0: none) -/
def pcOf (l : List Ent) (o : List Int) (i n : Nat) : Pc := if n = 0 then ((i : Int), 1, ⟨#[]⟩) else ((i : Int), (n : Int), Pl.textD l ((o.drop i).take n))
def pcN (n : Nat) : Nat := if n = 0 then 1 else n
/-- the pieces of the best segmentation from the place a on -/
def fewL (l : List Ent) (o : List Int) : Nat → Nat → List Pc
  | 0, _ => []
  | f + 1, a => if a < o.length then pcOf l o a (cst l o a).2.2 :: fewL l o f (a + pcN (cst l o a).2.2) else []
def fews (l : List Ent) (o : List Int) : List Pc := fewL l o o.length 0
theorem fewL_fuel {l : List Ent} {o : List Int} : ∀ (f g a : Nat), o.length - a ≤ f → o.length - a ≤ g → fewL l o f a = fewL l o g a
  | 0, 0, _, _, _ => rfl
  | 0, g + 1, a, h, _ => by unfold fewL; rw [if_neg (by omega)]
  | f + 1, 0, a, _, h => by unfold fewL; rw [if_neg (by omega)]
  | f + 1, g + 1, a, h1, h2 => by
    unfold fewL
    by_cases h : a < o.length
    · rw [if_pos h, if_pos h]
      have hc : 1 ≤ pcN (cst l o a).2.2 := by unfold pcN; split <;> omega
      rw [fewL_fuel f g (a + pcN (cst l o a).2.2) (by omega) (by omega)]
    · rw [if_neg h, if_neg h]
def FewTo (l : List Ent) (o : List Int) (out : List Pc) (a : Nat) : Prop := fews l o = out ++ fewL l o (o.length - a) a ∧ out.length ≤ a
theorem few_start (l : List Ent) (o : List Int) : FewTo l o [] 0 := ⟨rfl, Nat.le_refl _⟩
theorem few_step {l : List Ent} {o : List Int} {out : List Pc} {a : Nat} (h : FewTo l o out a) (ha : a < o.length) : FewTo l o (out ++ [pcOf l o a (cst l o a).2.2]) (a + pcN (cst l o a).2.2) := by
  obtain ⟨h3, h4⟩ := h
  have h1 : 1 ≤ pcN (cst l o a).2.2 := by unfold pcN; split <;> omega
  refine ⟨?_, by rw [List.length_append, List.length_singleton]; omega⟩
  obtain ⟨f, hf⟩ : ∃ f, o.length - a = f + 1 := ⟨o.length - a - 1, by omega⟩
  rw [h3, hf]
  conv => lhs; unfold fewL
  rw [if_pos ha, List.append_assoc, fewL_fuel f (o.length - (a + pcN (cst l o a).2.2)) (a + pcN (cst l o a).2.2) (by omega) (Nat.le_refl _)]
  rfl
theorem few_done {l : List Ent} {o : List Int} {out : List Pc} {a : Nat} (h : FewTo l o out a) (ha : o.length ≤ a) : out = fews l o := by
  rw [h.1, show o.length - a = 0 by omega]
  show out = out ++ []
  rw [List.append_nil]
theorem few_next_le (l : List Ent) (o : List Int) (a : Nat) (h : a < o.length) : 1 ≤ pcN (cst l o a).2.2 ∧ a + pcN (cst l o a).2.2 ≤ o.length := by
  have := cst_le l o _ a rfl
  unfold pcN
  split <;> omega
theorem fews_len_aux {l : List Ent} {o : List Int} : ∀ f a, (fewL l o f a).length ≤ f
  | 0, _ => Nat.le_refl _
  | f + 1, a => by
    unfold fewL
    split
    · rw [List.length_cons]; have := fews_len_aux (l := l) (o := o) f (a + pcN (cst l o a).2.2); omega
    · exact Nat.zero_le _
theorem fews_len (l : List Ent) (o : List Int) : (fews l o).length ≤ o.length := fews_len_aux _ _

end Go.Proofs.YtkbbcmbeafjpaaaGreatDoor
