/-
  PLAIN: segmentations of a row of strokes by a dictionary.
-/
import Derived.Test.YtdidgaibgkdjoaaGreatDoorBasD
namespace Go.Proofs.YtdidgaibgkdjoaaGreatDoor
open Go.RowKit

abbrev Pc := Int × Int × ByteArray

theorem trans_pos {s : ByteArray} (h : Pl.transOk s = true) : 1 ≤ s.size := by
  rcases Nat.lt_or_ge s.size 1 with h' | h'
  · obtain rfl := Pl.size_none (show s.size = 0 by omega)
    exact absurd h (by decide)
  · exact h'
theorem text_pos {l : List Ent} {o : List Int} (h : Pl.dictOk l = true) (hh : Pl.hasD l o = true) : 1 ≤ (Pl.textD l o).size := by
  rcases Pl.atD_cases l o with h1 | ⟨k, hk, h1, _⟩
  · unfold Pl.hasD at hh; rw [h1] at hh; exact absurd hh (by decide)
  · rw [Pl.textD_hit hk h1]
    have := Pl.dict_ent h hk
    unfold Pl.entOk at this
    rw [Bool.and_eq_true] at this
    exact trans_pos this.2
theorem matOk_told {l : List Ent} {o : List Int} (h : matOk l o = true) : Pl.dictOk l = true ∧ o.length ≤ 60 ∧ o.all Pl.strokeB = true := by
  unfold matOk strokesOk at h
  rw [Bool.and_eq_true, Bool.and_eq_true, decide_eq_true_iff] at h
  exact ⟨h.1, h.2.1, h.2.2⟩

/-- a piece of n strokes at a with the text t -/
def pcOk (l : List Ent) (o : List Int) (a n : Nat) (t : ByteArray) : Bool :=
  (Pl.hasD l ((o.drop a).take n) && (t.toList == (Pl.textD l ((o.drop a).take n)).toList)) || (decide (n = 1) && t.toList.isEmpty)
/-- the pieces from the place a on -/
def segB (l : List Ent) (o : List Int) : Nat → List Pc → Bool
  | a, [] => decide (a = o.length)
  | a, p :: r => decide (p.1 = (a : Int)) && Pl.inB p.2.1 1 ((o.length : Int) - (a : Int)) && pcOk l o a p.2.1.toNat p.2.2 && segB l o (a + p.2.1.toNat) r
theorem seg_end (l : List Ent) (o : List Int) (a : Nat) (P : List Pc) : segB l o a (P.drop P.length) = decide (a = o.length) := by
  rw [List.drop_eq_nil_of_le (Nat.le_refl _)]; rfl
theorem seg_cons (l : List Ent) (o : List Int) (a k : Nat) (P : List Pc) (hk : k < P.length) : segB l o a (P.drop k) = (decide (P[k].1 = (a : Int)) && Pl.inB P[k].2.1 1 ((o.length : Int) - (a : Int)) && pcOk l o a P[k].2.1.toNat P[k].2.2 && segB l o (a + P[k].2.1.toNat) (P.drop (k + 1))) := by
  rw [List.drop_eq_getElem_cons hk]; rfl
theorem seg_from {l : List Ent} {o : List Int} {a k : Nat} {P : List Pc} (hk : k < P.length) {p : Pc} (hp : P[k] = p) (h : ¬ p.1 = (a : Int)) : segB l o a (P.drop k) = false := by
  rw [seg_cons l o a k P hk, hp, decide_eq_false h]; rfl
theorem seg_in {l : List Ent} {o : List Int} {a k : Nat} {P : List Pc} (hk : k < P.length) {p : Pc} (hp : P[k] = p) (h : Pl.inB p.2.1 1 ((o.length : Int) - (a : Int)) = false) : segB l o a (P.drop k) = false := by
  rw [seg_cons l o a k P hk, hp, h, Bool.and_false]; rfl
theorem seg_pc {l : List Ent} {o : List Int} {a k : Nat} {P : List Pc} (hk : k < P.length) {p : Pc} (hp : P[k] = p) {n : Nat} (hn : p.2.1 = (n : Int)) (h : pcOk l o a n p.2.2 = false) : segB l o a (P.drop k) = false := by
  rw [seg_cons l o a k P hk, hp, hn, Int.toNat_natCast, h, Bool.and_false]; rfl
theorem seg_next {l : List Ent} {o : List Int} {a k : Nat} {P : List Pc} (hk : k < P.length) {p : Pc} (hp : P[k] = p) {n : Nat} (hn : p.2.1 = (n : Int)) (h1 : p.1 = (a : Int)) (h2 : Pl.inB p.2.1 1 ((o.length : Int) - (a : Int)) = true) (h : pcOk l o a n p.2.2 = true) : segB l o a (P.drop k) = segB l o (a + n) (P.drop (k + 1)) := by
  rw [seg_cons l o a k P hk, hp, h2, hn, Int.toNat_natCast, h, decide_eq_true h1]; rfl
theorem inB_nat {x : Int} {o : List Int} {a : Nat} (h : Pl.inB x 1 ((o.length : Int) - (a : Int)) = true) : ∃ n : Nat, x = (n : Int) ∧ 1 ≤ n ∧ a + n ≤ o.length := by
  unfold Pl.inB at h
  rw [Bool.and_eq_true, decide_eq_true_iff, decide_eq_true_iff] at h
  exact ⟨x.toNat, by omega, by omega, by omega⟩

/-- the longest match: its length -/
theorem matD_told (l : List Ent) (o : List Int) (i : Nat) (hi : i < o.length) : ∀ n, ∃ c : Nat, matD l o i n = ((i : Int), (c : Int), (matD l o i n).2.2) ∧ 1 ≤ c ∧ i + c ≤ o.length
  | 0 => ⟨1, rfl, Nat.le_refl _, by omega⟩
  | n + 1 => by
    obtain ⟨c, h1, h2, h3⟩ := matD_told l o i hi n
    unfold matD
    split
    · rename_i h
      exact ⟨n + 1, rfl, by omega, h.1⟩
    · exact ⟨c, h1, h2, h3⟩
/-- the pieces of the segmentation by longest match, from the place a on -/
def segL (l : List Ent) (o : List Int) : Nat → Nat → List Pc
  | 0, _ => []
  | f + 1, a => if a < o.length then matD l o a 6 :: segL l o f (a + (matD l o a 6).2.1.toNat) else []
def segs (l : List Ent) (o : List Int) : List Pc := segL l o o.length 0
theorem segL_fuel {l : List Ent} {o : List Int} : ∀ (f g a : Nat), o.length - a ≤ f → o.length - a ≤ g → segL l o f a = segL l o g a
  | 0, 0, _, _, _ => rfl
  | 0, g + 1, a, h, _ => by unfold segL; rw [if_neg (by omega)]
  | f + 1, 0, a, _, h => by unfold segL; rw [if_neg (by omega)]
  | f + 1, g + 1, a, h1, h2 => by
    unfold segL
    by_cases h : a < o.length
    · rw [if_pos h, if_pos h]
      obtain ⟨c, e, c1, c2⟩ := matD_told l o a h 6
      have hc : (matD l o a 6).2.1.toNat = c := by rw [e]; rfl
      rw [hc, segL_fuel f g (a + c) (by omega) (by omega)]
    · rw [if_neg h, if_neg h]
/-- what is laid so far: the pieces up to the place a -/
def SegTo (l : List Ent) (o : List Int) (out : List Pc) (a : Nat) : Prop := segs l o = out ++ segL l o (o.length - a) a ∧ out.length ≤ a
theorem seg_start (l : List Ent) (o : List Int) : SegTo l o [] 0 := ⟨rfl, Nat.le_refl _⟩
theorem seg_step {l : List Ent} {o : List Int} {out : List Pc} {a : Nat} (h : SegTo l o out a) (ha : a < o.length) {c : Nat} (hc : (matD l o a 6).2.1 = (c : Int)) (h1 : 1 ≤ c) (h2 : a + c ≤ o.length) : SegTo l o (out ++ [matD l o a 6]) (a + c) := by
  obtain ⟨h3, h4⟩ := h
  refine ⟨?_, by rw [List.length_append, List.length_singleton]; omega⟩
  obtain ⟨f, hf⟩ : ∃ f, o.length - a = f + 1 := ⟨o.length - a - 1, by omega⟩
  rw [h3, hf]
  conv => lhs; unfold segL
  rw [if_pos ha, hc, Int.toNat_natCast, List.append_assoc, segL_fuel f (o.length - (a + c)) (a + c) (by omega) (Nat.le_refl _)]
  rfl
theorem seg_done {l : List Ent} {o : List Int} {out : List Pc} {a : Nat} (h : SegTo l o out a) (ha : o.length ≤ a) : out = segs l o := by
  rw [h.1, show o.length - a = 0 by omega]
  show out = out ++ []
  rw [List.append_nil]
theorem segs_len_aux {l : List Ent} {o : List Int} : ∀ f a, (segL l o f a).length ≤ f
  | 0, _ => Nat.le_refl _
  | f + 1, a => by
    unfold segL
    split
    · rw [List.length_cons]; have := segs_len_aux (l := l) (o := o) f (a + (matD l o a 6).2.1.toNat); omega
    · exact Nat.zero_le _
theorem segs_len (l : List Ent) (o : List Int) : (segs l o).length ≤ o.length := segs_len_aux _ _

end Go.Proofs.YtdidgaibgkdjoaaGreatDoor
