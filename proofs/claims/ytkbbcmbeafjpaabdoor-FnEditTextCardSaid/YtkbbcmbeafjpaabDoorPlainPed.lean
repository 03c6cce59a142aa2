/-
  PLAIN: the text of an edit read. No program is in sight.
-/
import Derived.Test.YtkbbcmbeafjpaabDoorPlainParts
import Derived.Test.YtkbbcmbeafjpaabDoorPlainClock
import Derived.Test.YtkbbcmbeafjpaabDoorPlainEdit
import Derived.Lib.Atoi
import Derived.Lib.CutLaws
namespace Go.Proofs.YtkbbcmbeafjpaabDoor.Pl
open Go.RowKit

theorem decFrom_snoc {c : UInt8} {d : Nat} (hd : Lib.digitVal c = some d) : ∀ (l : List UInt8) (acc n : Nat), Lib.decFrom acc l = some n → Lib.decFrom acc (l ++ [c]) = some (n * 10 + d)
  | [], acc, n, h => by
    simp only [Lib.decFrom, Option.some.injEq] at h
    subst h
    simp [Lib.decFrom, hd]
  | a :: l, acc, n, h => by
    simp only [Lib.decFrom, List.cons_append] at h ⊢
    cases ha : Lib.digitVal a with
    | none => rw [ha] at h; cases h
    | some e =>
      rw [ha] at h
      exact decFrom_snoc hd l _ n h
theorem digit_val {i : Nat} (h : i < 10) : Lib.digitVal (UInt8.ofNat (48 + i)) = some i := by
  have e : (UInt8.ofNat (48 + i)).toNat = 48 + i := by simp; omega
  unfold Lib.digitVal
  rw [e, if_pos ⟨by omega, by omega⟩]
  simp
theorem dec_val (u : Nat) : Lib.decFrom 0 (Lib.decDigits u) = some u := by
  induction u using Nat.strongRecOn with
  | _ u ih =>
    rw [Lib.decDigits]
    split
    · rename_i h
      have := digit_val h
      show (match Lib.digitVal (UInt8.ofNat (48 + u)) with | some d => Lib.decFrom (0 * 10 + d) [] | none => none) = some u
      rw [this]
      show some (0 * 10 + u) = some u
      rw [Nat.zero_mul, Nat.zero_add]
    · rename_i h
      rw [decFrom_snoc (digit_val (Nat.mod_lt u (by omega))) _ _ _ (ih (u / 10) (by omega))]
      congr 1
      omega
theorem dec_digit (u : Nat) : ∀ c ∈ Lib.decDigits u, 48 ≤ c.toNat ∧ c.toNat ≤ 57 := by
  induction u using Nat.strongRecOn with
  | _ u ih =>
    intro c hc
    rw [Lib.decDigits] at hc
    split at hc
    · rename_i h
      simp only [List.mem_singleton] at hc
      subst hc
      have e : (UInt8.ofNat (48 + u)).toNat = 48 + u := by simp; omega
      omega
    · rename_i h
      rcases List.mem_append.1 hc with hc | hc
      · exact ih (u / 10) (by omega) c hc
      · simp only [List.mem_singleton] at hc
        subst hc
        have e : (UInt8.ofNat (48 + u % 10)).toNat = 48 + u % 10 := by simp; omega
        omega
theorem dec_len {u : Nat} (h : u ≤ 2000) : 1 ≤ (Lib.decDigits u).length ∧ (Lib.decDigits u).length ≤ 4 := by
  rw [Lib.decDigits_length]
  refine ⟨Lib.nDigits_pos u, ?_⟩
  by_cases h1 : u < 10
  · rw [Lib.nDigits_small h1]; omega
  rw [Lib.nDigits_big h1]
  by_cases h2 : u / 10 < 10
  · rw [Lib.nDigits_small h2]; omega
  rw [Lib.nDigits_big h2]
  by_cases h3 : u / 10 / 10 < 10
  · rw [Lib.nDigits_small h3]; omega
  rw [Lib.nDigits_big h3, Lib.nDigits_small (by omega)]
  omega
/-- a text is the numeral of a number of an edit -/
def isN (s : ByteArray) : Prop := ∃ b : Nat, b ≤ 2000 ∧ s = num (b : Int)
theorem num_list (u : Nat) : (num (u : Int)).data.toList = Lib.decDigits u := by rw [num_nat]
theorem isN_told {s : ByteArray} (h : isN s) : 1 ≤ s.size ∧ s.size ≤ 4 ∧ (∀ c ∈ s.data.toList, 48 ≤ c.toNat ∧ c.toNat ≤ 57) := by
  obtain ⟨b, hb, rfl⟩ := h
  rw [ba_size, num_list]
  obtain ⟨h1, h2⟩ := dec_len hb
  exact ⟨h1, h2, dec_digit b⟩
theorem isN_at {s : ByteArray} (h : isN s) {k : Nat} (hk : k < s.size) : 48 ≤ s[k].toNat ∧ s[k].toNat ≤ 57 := (isN_told h).2.2 _ (by
  show s.data[k] ∈ s.data.toList
  exact Array.getElem_mem_toList hk)
/-- what reading a number tells -/
def RD (s : ByteArray) (n : Int) (y : Bool) : Prop := (y = true → s = num n) ∧ (∀ b : Nat, b ≤ 2000 → s = num (b : Int) → n = (b : Int) ∧ y = true) ∧ -999999 ≤ n ∧ n ≤ 999999
theorem RD.bad {s : ByteArray} (h : ¬ isN s) : RD s 0 false :=
  ⟨(fun h => by cases h), (fun b hb e => absurd (show isN s from ⟨b, hb, e⟩) h), by omega, by omega⟩
theorem RD.val {s : ByteArray} {m : Nat} (h : Lib.decFrom 0 s.data.toList = some m) (b : Nat) (e : s = num (b : Int)) : m = b := by
  rw [e, num_list, dec_val] at h
  exact (Option.some.inj h).symm
/-- the library's Atoi reads such a numeral -/
theorem atoi_num {b : Nat} (hb : b ≤ 2000) : Lib.atoi (num (b : Int)).data.toList = some (b : Int) := by
  rw [num_list]
  have h1 := dec_len hb
  have h2 := dec_digit b
  have h3 := dec_val b
  generalize Lib.decDigits b = l at h1 h2 h3
  cases l with
  | nil => simp at h1
  | cons c r =>
    have hc := h2 c List.mem_cons_self
    have n1 : (c == 45) = false := by
      rw [beq_eq_false_iff_ne]
      intro e; rw [e] at hc; exact absurd hc.1 (by decide)
    have n2 : (c == 43) = false := by
      rw [beq_eq_false_iff_ne]
      intro e; rw [e] at hc; exact absurd hc.1 (by decide)
    show (if c == 45 then (Lib.decNat r).map fun (m : Nat) => -(m : Int) else if c == 43 then (Lib.decNat r).map fun (m : Nat) => (m : Int) else (Lib.decNat (c :: r)).map fun (m : Nat) => (m : Int)) = _
    rw [n1, n2]
    simp only [Bool.false_eq_true, if_false]
    unfold Lib.decNat
    rw [if_neg (by simp), h3]
    rfl

/-- the text of an edit -/
def edT (b : Int) (t : ByteArray) : ByteArray := ⟨#[45]⟩ ++ num b ++ ⟨#[43]⟩ ++ t
def PE (s : ByteArray) (b : Int) (t : ByteArray) (y : Bool) : Prop := (y = true → s = edT b t ∧ validEdit b t = true) ∧ (y = false → b = 0 ∧ t = ⟨#[]⟩ ∧ ∀ b' t', s = edT b' t' → validEdit b' t' = false)
theorem vb {b : Int} {t : ByteArray} (h : validEdit b t = true) : 0 ≤ b ∧ b ≤ 2000 := by
  simp [validEdit, isScreen, inB] at h
  omega
theorem edT_list (b : Int) (t : ByteArray) : (edT b t).data.toList = 45 :: (num b).data.toList ++ 43 :: t.data.toList := by
  unfold edT
  rw [ba_append, ba_append, ba_append]
  simp
theorem plus_free {b : Int} (h0 : 0 ≤ b) : (43 : UInt8) ∉ (45 : UInt8) :: (num b).data.toList := by
  obtain ⟨u, rfl⟩ := Int.eq_ofNat_of_zero_le h0
  rw [num_list]
  intro h
  rcases List.mem_cons.1 h with h | h
  · exact absurd h (by decide)
  · exact absurd (dec_digit u 43 h).1 (by decide)
theorem cut_one_way : ∀ {x y p q : List UInt8}, (43 : UInt8) ∉ x → (43 : UInt8) ∉ y → x ++ 43 :: p = y ++ 43 :: q → x = y ∧ p = q
  | [], [], _, _, _, _, h => ⟨rfl, by simpa using h⟩
  | [], b :: y, _, _, _, hy, h => by simp at h; exact absurd (h.1 ▸ List.mem_cons_self) hy
  | a :: x, [], _, _, hx, _, h => by simp at h; exact absurd (h.1 ▸ List.mem_cons_self) hx
  | a :: x, b :: y, p, q, hx, hy, h => by
    simp only [List.cons_append, List.cons.injEq] at h
    obtain ⟨e1, e2⟩ := cut_one_way (fun hm => hx (List.mem_cons_of_mem _ hm)) (fun hm => hy (List.mem_cons_of_mem _ hm)) h.2
    exact ⟨by rw [h.1, e1], e2⟩
theorem num_inj {a b : Int} (ha : 0 ≤ a) (hb : 0 ≤ b) (h : (num a).data.toList = (num b).data.toList) : a = b := by
  obtain ⟨u, rfl⟩ := Int.eq_ofNat_of_zero_le ha
  obtain ⟨v, rfl⟩ := Int.eq_ofNat_of_zero_le hb
  rw [num_list, num_list] at h
  have := dec_val u
  rw [h, dec_val v] at this
  rw [Option.some.inj this]
theorem edT_inj {b b' : Int} {t t' : ByteArray} (h0 : 0 ≤ b) (h0' : 0 ≤ b') (h : edT b t = edT b' t') : b = b' ∧ t = t' := by
  have h1 : (edT b t).data.toList = (edT b' t').data.toList := by rw [h]
  rw [edT_list, edT_list] at h1
  obtain ⟨e1, e2⟩ := cut_one_way (plus_free h0) (plus_free h0') h1
  exact ⟨num_inj h0 h0' (by simpa using e1), ba_ext e2⟩
theorem PE.unique {s : ByteArray} {b b' : Int} {t t' : ByteArray} {y y' : Bool} (h : PE s b t y) (h' : PE s b' t' y') : b = b' ∧ t = t' ∧ y = y' := by
  cases y
  · obtain ⟨e1, e2, e3⟩ := h.2 rfl
    cases y'
    · obtain ⟨f1, f2, _⟩ := h'.2 rfl
      exact ⟨e1.trans f1.symm, e2.trans f2.symm, rfl⟩
    · obtain ⟨f1, f2⟩ := h'.1 rfl
      rw [e3 _ _ f1] at f2; cases f2
  · obtain ⟨e1, e2⟩ := h.1 rfl
    cases y'
    · obtain ⟨_, _, f3⟩ := h'.2 rfl
      rw [f3 _ _ e1] at e2; cases e2
    · obtain ⟨f1, f2⟩ := h'.1 rfl
      obtain ⟨g1, g2⟩ := edT_inj (vb e2).1 (vb f2).1 (e1.symm.trans f1)
      exact ⟨g1, g2, rfl⟩
/-- the two ways a text may lie -/
theorem plus_cases (s : ByteArray) : (43 : UInt8) ∉ s.data.toList ∨ ∃ x r : ByteArray, s.data.toList = x.data.toList ++ 43 :: r.data.toList ∧ (43 : UInt8) ∉ x.data.toList := by
  by_cases h : (43 : UInt8) ∈ s.data.toList
  · right
    have hno : Lib.indexByte s.data.toList 43 ≠ -1 := by
      intro e
      obtain ⟨k, hk, e2⟩ := List.mem_iff_getElem.1 h
      exact Lib.indexByte_none e k (by rw [List.getElem?_eq_getElem hk, e2])
    have hge := Lib.indexByte_ge s.data.toList 43
    obtain ⟨h1, h2⟩ := Lib.indexByte_some (l := s.data.toList) (c := 43) (o := (Lib.indexByte s.data.toList 43).toNat) (by omega)
    exact ⟨⟨⟨s.data.toList.take _⟩⟩, ⟨⟨s.data.toList.drop _⟩⟩, split_at 43 _ _ h1, not_mem_take h2⟩
  · exact .inl h
theorem edT_plus {s : ByteArray} (h : (43 : UInt8) ∉ s.data.toList) (b : Int) (t : ByteArray) : s ≠ edT b t := by
  intro e
  apply h
  rw [e, edT_list]
  simp
theorem parts_miss {s : ByteArray} (h : (43 : UInt8) ∉ s.data.toList) : parts 43 s = [s] := by
  unfold parts
  rw [cutAt_last 43 _ h]
  rfl
theorem parts_hit {s x r : ByteArray} (e : s.data.toList = x.data.toList ++ 43 :: r.data.toList) (h : (43 : UInt8) ∉ x.data.toList) : parts 43 s = x :: parts 43 r := by
  unfold parts
  rw [e, cutAt_hit 43 _ _ h]
  rfl
theorem cut_miss {s : ByteArray} (h : (43 : UInt8) ∉ s.data.toList) : Lib.cut s.data.toList [43] = (s.data.toList, [], false) := by
  have e : Lib.index s.data.toList [43] = -1 := by
    rw [Lib.index_one]
    by_cases e : Lib.indexByte s.data.toList 43 = -1
    · exact e
    · exfalso
      have hge := Lib.indexByte_ge s.data.toList 43
      obtain ⟨h1, _⟩ := Lib.indexByte_some (l := s.data.toList) (c := 43) (o := (Lib.indexByte s.data.toList 43).toNat) (by omega)
      exact h (List.mem_of_getElem? h1)
  unfold Lib.cut
  rw [e, if_neg (by omega)]
theorem cut_hit {s x r : ByteArray} (e : s.data.toList = x.data.toList ++ 43 :: r.data.toList) (h : (43 : UInt8) ∉ x.data.toList) : Lib.cut s.data.toList [43] = (x.data.toList, r.data.toList, true) := by
  have hi : Lib.index s.data.toList [43] = (x.data.toList.length : Int) := by
    rw [Lib.index_one]
    have hge := Lib.indexByte_ge s.data.toList 43
    have hmem : (43 : UInt8) ∈ s.data.toList := by rw [e]; simp
    have hno : Lib.indexByte s.data.toList 43 ≠ -1 := by
      intro e1
      obtain ⟨k, hk, e2⟩ := List.mem_iff_getElem.1 hmem
      exact Lib.indexByte_none e1 k (by rw [List.getElem?_eq_getElem hk, e2])
    obtain ⟨h1, h2⟩ := Lib.indexByte_some (l := s.data.toList) (c := 43) (o := (Lib.indexByte s.data.toList 43).toNat) (by omega)
    generalize hj : (Lib.indexByte s.data.toList 43).toNat = j at h1 h2
    have : j = x.data.toList.length := by
      rcases Nat.lt_trichotomy j x.data.toList.length with hl | hl | hl
      · rw [e, List.getElem?_append_left hl] at h1
        exact absurd (List.mem_of_getElem? h1) h
      · exact hl
      · refine absurd ?_ (h2 x.data.toList.length hl)
        rw [e, List.getElem?_append_right (Nat.le_refl _)]
        simp
    omega
  unfold Lib.cut
  rw [hi, if_pos (by omega)]
  have e1 : ((x.data.toList.length : Nat) : Int).toNat = x.data.toList.length := by omega
  rw [e1, e]
  have e2 : List.drop (x.data.toList.length + 1) (x.data.toList ++ 43 :: r.data.toList) = r.data.toList := by
    rw [show x.data.toList ++ 43 :: r.data.toList = (x.data.toList ++ [43]) ++ r.data.toList by rw [List.append_assoc]; rfl]
    exact List.drop_left' (by rw [List.length_append]; rfl)
  show (List.take x.data.toList.length _, List.drop (x.data.toList.length + 1) _, true) = _
  rw [List.take_left, e2]

end Go.Proofs.YtkbbcmbeafjpaabDoor.Pl
