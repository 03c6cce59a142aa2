/-
  PLAIN: outlines compared, dictionaries, and what they hold. No program is in sight.
-/
import Derived.Test.YtibchndfndgdeaaPlainParts
import Derived.Test.YtibchndfndgdeaaPlainFold
namespace Go.Proofs.Ytibchndfndgdeaa.Pl
open Go.RowKit

/-- two outlines compared -/
def cmpI : List Int → List Int → Int
  | [], [] => 0
  | [], _ :: _ => -1
  | _ :: _, [] => 1
  | x :: a, y :: b => if x < y then -1 else if y < x then 1 else cmpI a b
/-- the first k strokes are the same -/
def sameTo (a b : List Int) (k : Nat) : Prop := k ≤ a.length ∧ k ≤ b.length ∧ a.take k = b.take k
theorem same_zero (a b : List Int) : sameTo a b 0 := ⟨Nat.zero_le _, Nat.zero_le _, by simp⟩
theorem same_next {a b : List Int} {k : Nat} (h : sameTo a b k) (ha : k < a.length) (hb : k < b.length) (e : a[k] = b[k]) : sameTo a b (k + 1) := by
  refine ⟨by omega, by omega, ?_⟩
  rw [List.take_succ_eq_append_getElem ha, List.take_succ_eq_append_getElem hb, h.2.2, e]
theorem cmp_app (p a b : List Int) : cmpI (p ++ a) (p ++ b) = cmpI a b := by
  induction p with
  | nil => rfl
  | cons x p ih => rw [List.cons_append, List.cons_append, cmpI, if_neg (by omega), if_neg (by omega), ih]
theorem cmp_at {a b : List Int} {k : Nat} (h : sameTo a b k) : cmpI a b = cmpI (a.drop k) (b.drop k) := by
  have e := cmp_app (a.take k) (a.drop k) (b.drop k)
  rw [List.take_append_drop, h.2.2, List.take_append_drop] at e
  exact e
theorem cmp_lt {a b : List Int} {k : Nat} (h : sameTo a b k) (ha : k < a.length) (hb : k < b.length) (e : a[k] < b[k]) : cmpI a b = -1 := by
  rw [cmp_at h, List.drop_eq_getElem_cons ha, List.drop_eq_getElem_cons hb, cmpI, if_pos e]
theorem cmp_gt {a b : List Int} {k : Nat} (h : sameTo a b k) (ha : k < a.length) (hb : k < b.length) (e : b[k] < a[k]) : cmpI a b = 1 := by
  rw [cmp_at h, List.drop_eq_getElem_cons ha, List.drop_eq_getElem_cons hb, cmpI, if_neg (by omega), if_pos e]
theorem cmp_short {a b : List Int} (h : sameTo a b a.length) (hb : a.length < b.length) : cmpI a b = -1 := by
  rw [cmp_at h, List.drop_length, List.drop_eq_getElem_cons hb]; rfl
theorem cmp_long {a b : List Int} (h : sameTo a b b.length) (ha : b.length < a.length) : cmpI a b = 1 := by
  rw [cmp_at h, List.drop_length, List.drop_eq_getElem_cons ha]; rfl
theorem cmp_same {a b : List Int} (h : sameTo a b a.length) (hb : a.length = b.length) : cmpI a b = 0 := by
  rw [cmp_at h, List.drop_length, hb, List.drop_length]; rfl
theorem cmp_three (a b : List Int) : cmpI a b = -1 ∨ cmpI a b = 0 ∨ cmpI a b = 1 := by
  induction a generalizing b with
  | nil => cases b <;> simp [cmpI]
  | cons x a ih =>
    cases b with
    | nil => simp [cmpI]
    | cons y b =>
      rw [cmpI]
      split
      · exact .inl rfl
      · split
        · exact .inr (.inr rfl)
        · exact ih b
theorem cmp_zero {a b : List Int} : cmpI a b = 0 ↔ a = b := by
  induction a generalizing b with
  | nil => cases b <;> simp [cmpI]
  | cons x a ih =>
    cases b with
    | nil => simp [cmpI]
    | cons y b =>
      rw [cmpI]
      split
      · rename_i h; constructor
        · intro h'; omega
        · intro h'; simp only [List.cons.injEq] at h'; omega
      · split
        · rename_i h; constructor
          · intro h'; omega
          · intro h'; simp only [List.cons.injEq] at h'; omega
        · rw [ih]; constructor
          · intro h'; rw [h']; congr 1; omega
          · intro h'; exact (List.cons.inj h').2

/-- all of the first k hold -/
def allTo (f : Nat → Bool) : Nat → Bool
  | 0 => true
  | k + 1 => allTo f k && f k
theorem allTo_no {f : Nat → Bool} {k : Nat} (h : f k = false) : ∀ n, k < n → allTo f n = false
  | 0, hn => absurd hn (Nat.not_lt_zero _)
  | n + 1, hn => by
    unfold allTo
    by_cases hk : k = n
    · rw [← hk, h, Bool.and_false]
    · rw [allTo_no h n (by omega), Bool.false_and]
theorem allTo_yes {f : Nat → Bool} {k : Nat} (h : allTo f k = true) (h' : f k = true) : allTo f (k + 1) = true := by unfold allTo; rw [h, h']; rfl
theorem allTo_at {f : Nat → Bool} : ∀ {n k : Nat}, allTo f n = true → k < n → f k = true
  | 0, _, _, hn => absurd hn (Nat.not_lt_zero _)
  | n + 1, k, h, hn => by
    unfold allTo at h
    rw [Bool.and_eq_true] at h
    by_cases hk : k = n
    · rw [hk]; exact h.2
    · exact allTo_at h.1 (by omega)

abbrev En := List Int × ByteArray
def entOk (p : En) : Bool := outlineB p.1 && transOk p.2
/-- the entry at k is valid and behind the one before -/
def dictAt (l : List En) (k : Nat) : Bool :=
  match l[k]? with
  | some p => entOk p && (decide (k = 0) || decide (cmpI (l.getD (k - 1) ([], ⟨#[]⟩)).1 p.1 < 0))
  | none => false
def dictOk (l : List En) : Bool := decide (l.length ≤ 40) && allTo (dictAt l) l.length
theorem dict_none {l : List En} {k : Nat} (hk : k < l.length) (h : entOk l[k] = false) : dictAt l k = false := by
  unfold dictAt; rw [List.getElem?_eq_getElem hk]
  show (entOk l[k] && _) = false
  rw [h, Bool.false_and]
theorem dict_zero {l : List En} (hk : 0 < l.length) (h : entOk l[0] = true) : dictAt l 0 = true := by
  unfold dictAt; rw [List.getElem?_eq_getElem hk]
  show (entOk l[0] && _) = true
  rw [h]; rfl
theorem dict_next {l : List En} {k : Nat} (hk : k + 1 < l.length) (h : entOk l[k + 1] = true) : dictAt l (k + 1) = decide (cmpI (l[k]).1 (l[k + 1]).1 < 0) := by
  unfold dictAt; rw [List.getElem?_eq_getElem hk]
  show (entOk l[k + 1] && (decide (k + 1 = 0) || decide (cmpI (l.getD (k + 1 - 1) ([], ⟨#[]⟩)).1 (l[k + 1]).1 < 0))) = _
  rw [h, Nat.add_sub_cancel, List.getD_eq_getElem?_getD, List.getElem?_eq_getElem (by omega : k < l.length)]
  simp
theorem dict_no {l : List En} {k : Nat} (hk : k < l.length) (h : dictAt l k = false) : dictOk l = false := by
  unfold dictOk; rw [allTo_no h _ hk, Bool.and_false]
theorem dict_long {l : List En} (h : 40 < l.length) : dictOk l = false := by
  unfold dictOk
  rw [decide_eq_false (by omega), Bool.false_and]
theorem dict_len {l : List En} (h : dictOk l = true) : l.length ≤ 40 := by
  unfold dictOk at h
  rw [Bool.and_eq_true, decide_eq_true_iff] at h
  exact h.1
theorem dict_ent {l : List En} (h : dictOk l = true) {k : Nat} (hk : k < l.length) : entOk l[k] = true := by
  unfold dictOk at h
  rw [Bool.and_eq_true] at h
  have h2 := allTo_at h.2 hk
  cases he : entOk l[k]
  · rw [dict_none hk he] at h2; cases h2
  · rfl

/-- the first entry with an outline -/
def atD (l : List En) (o : List Int) : Int := match l.findIdx? (fun p => p.1 == o) with | some k => (k : Int) | none => -1
theorem atD_hit {l : List En} {o : List Int} {k : Nat} (hk : k < l.length) (h0 : (l.take k).all (fun p => !(p.1 == o)) = true) (h : (l[k].1 == o) = true) : atD l o = k := by
  have e : l.findIdx? (fun p => p.1 == o) = some k := by
    rw [List.findIdx?_eq_some_iff_getElem]
    refine ⟨hk, h, fun j hj hp => ?_⟩
    have hm : l[j] ∈ l.take k := by
      rw [List.mem_take_iff_getElem]
      exact ⟨j, by omega, rfl⟩
    have h2 := List.all_eq_true.1 h0 _ hm
    have h3 : (l[j].1 == o) = true := hp
    rw [h3] at h2; cases h2
  unfold atD; rw [e]
theorem atD_none {l : List En} {o : List Int} (h0 : l.all (fun p => !(p.1 == o)) = true) : atD l o = -1 := by
  have e : l.findIdx? (fun p => p.1 == o) = none := by
    rw [List.findIdx?_eq_none_iff]
    intro x hx
    have := List.all_eq_true.1 h0 x hx
    simpa using this
  unfold atD; rw [e]
theorem atD_cases (l : List En) (o : List Int) : atD l o = -1 ∨ ∃ k : Nat, ∃ h : k < l.length, atD l o = k ∧ l[k].1 = o := by
  unfold atD
  cases h : l.findIdx? (fun p => p.1 == o) with
  | none => exact .inl rfl
  | some k =>
    rw [List.findIdx?_eq_some_iff_getElem] at h
    obtain ⟨h1, h2, _⟩ := h
    exact .inr ⟨k, h1, rfl, by simpa using h2⟩
theorem all_next {l : List En} {o : List Int} {k : Nat} (hk : k < l.length) (h0 : (l.take k).all (fun p => !(p.1 == o)) = true) (h : (l[k].1 == o) = false) : (l.take (k + 1)).all (fun p => !(p.1 == o)) = true := by
  rw [List.take_add_one, List.getElem?_eq_getElem hk, List.all_append, h0]
  simp [h]
def hasD (l : List En) (o : List Int) : Bool := decide (0 ≤ atD l o)
/-- the text of an outline -/
def textD (l : List En) (o : List Int) : ByteArray := match l.find? (fun p => p.1 == o) with | some p => p.2 | none => ⟨#[]⟩
theorem textD_hit {l : List En} {o : List Int} {k : Nat} (hk : k < l.length) (h : atD l o = k) : textD l o = l[k].2 := by
  have e : l.findIdx? (fun p => p.1 == o) = some k := by
    unfold atD at h
    cases h2 : l.findIdx? (fun p => p.1 == o) with
    | none => rw [h2] at h; simp at h
    | some j =>
      rw [h2] at h
      have h3 : j = k := by
        have h4 : (j : Int) = (k : Int) := h
        omega
      rw [h3]
  unfold textD
  rw [List.findIdx?_eq_some_iff_getElem] at e
  obtain ⟨h1, h2, h3⟩ := e
  have e2 : l.find? (fun p => p.1 == o) = some l[k] := by
    rw [List.find?_eq_some_iff_getElem]
    exact ⟨h2, k, hk, rfl, fun j hj => by simpa using h3 j hj⟩
  rw [e2]
theorem textD_none {l : List En} {o : List Int} (h : atD l o = -1) : textD l o = ⟨#[]⟩ := by
  have e : l.findIdx? (fun p => p.1 == o) = none := by
    unfold atD at h
    cases h2 : l.findIdx? (fun p => p.1 == o) with
    | none => rfl
    | some j => rw [h2] at h; simp at h
  unfold textD
  rw [List.findIdx?_eq_none_iff] at e
  have e2 : l.find? (fun p => p.1 == o) = none := by
    rw [List.find?_eq_none]
    intro x hx
    simpa using e x hx
  rw [e2]

end Go.Proofs.Ytibchndfndgdeaa.Pl
