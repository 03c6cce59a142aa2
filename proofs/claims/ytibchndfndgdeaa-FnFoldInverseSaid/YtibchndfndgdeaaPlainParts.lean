/-
  PLAIN: a text cut at each instance of a byte, and a translation read. No program is in sight.
-/
import Derived.Test.YtibchndfndgdeaaPlainTrans
namespace Go.Proofs.Ytibchndfndgdeaa.Pl
open Go.RowKit

/-- a list of bytes cut at each b -/
def cutAt (b : UInt8) : List UInt8 → List (List UInt8)
  | [] => [[]]
  | c :: r => if c = b then [] :: cutAt b r else (c :: (cutAt b r).headD []) :: (cutAt b r).tail
theorem cutAt_last (b : UInt8) : ∀ (x : List UInt8), b ∉ x → cutAt b x = [x]
  | [], _ => rfl
  | c :: x, h => by
    have hc : ¬ c = b := fun e => h (by simp [e])
    have hx : b ∉ x := fun e => h (by simp [e])
    rw [cutAt, if_neg hc, cutAt_last b x hx]; rfl
theorem cutAt_hit (b : UInt8) (r : List UInt8) : ∀ (x : List UInt8), b ∉ x → cutAt b (x ++ b :: r) = x :: cutAt b r
  | [], _ => by rw [List.nil_append, cutAt, if_pos rfl]
  | c :: x, h => by
    have hc : ¬ c = b := fun e => h (by simp [e])
    have hx : b ∉ x := fun e => h (by simp [e])
    rw [List.cons_append, cutAt, if_neg hc, cutAt_hit b r x hx]; rfl
/-- .. and the pieces -/
def parts (b : UInt8) (s : ByteArray) : List ByteArray := (cutAt b s.data.toList).map fun l => ⟨⟨l⟩⟩

theorem split_at (b : UInt8) (l : List UInt8) (i : Nat) (h : l[i]? = some b) : l = l.take i ++ b :: l.drop (i + 1) := by
  have hi : i < l.length := by
    rcases Nat.lt_or_ge i l.length with h' | h'
    · exact h'
    · rw [List.getElem?_eq_none h'] at h; cases h
  have e : l[i] = b := by rw [List.getElem?_eq_getElem hi] at h; exact Option.some.inj h
  rw [← e, ← List.drop_eq_getElem_cons hi, List.take_append_drop]
theorem not_mem_take {b : UInt8} {l : List UInt8} {i : Nat} (h : ∀ k, k < i → l[k]? ≠ some b) : b ∉ l.take i := by
  intro hm
  obtain ⟨k, hk, e⟩ := List.mem_iff_getElem.1 hm
  have hk' : k < i := by rw [List.length_take] at hk; omega
  apply h k hk'
  rw [List.getElem_take] at e
  rw [List.length_take] at hk
  rw [List.getElem?_eq_getElem (by omega), e]
theorem splitK_cut (b : UInt8) : ∀ (n : Nat) (l : List UInt8), Lib.count l [b] = n → Lib.splitK [b] 0 n l = cutAt b l
  | 0, l, hn => by
    have hno : Lib.index l [b] = -1 := by
      rcases Lib.index_spec l [b] with ⟨h, _⟩ | ⟨i, h, _⟩
      · exact h
      · rw [Lib.count_hit (by simp) h] at hn; omega
    have hb : b ∉ l := by
      intro hm
      obtain ⟨k, hk, e⟩ := List.mem_iff_getElem.1 hm
      rw [Lib.index_one] at hno
      exact Lib.indexByte_none hno k (by rw [List.getElem?_eq_getElem hk, e])
    rw [Lib.splitK, cutAt_last b l hb]
  | n + 1, l, hn => by
    rcases Lib.index_spec l [b] with ⟨h, _⟩ | ⟨i, h, _⟩
    · rw [Lib.count_miss h] at hn; omega
    · rw [Lib.count_hit (by simp) h] at hn
      have h' := h
      rw [Lib.index_one] at h'
      obtain ⟨h1, h2⟩ := Lib.indexByte_some h'
      have hm : ¬ (Lib.index l [b] == -1) = true := fun e => by have := beq_iff_eq.1 e; omega
      have e : (Lib.index l [b]).toNat = i := by omega
      have hl1 : ([b] : List UInt8).length = 1 := rfl
      rw [hl1] at hn
      rw [Lib.splitK, if_neg hm, e, hl1, splitK_cut b n _ (by omega), Nat.add_zero]
      conv => rhs; rw [split_at b l i h1]
      rw [cutAt_hit b _ _ (not_mem_take h2)]
theorem map_inj {l m : List ByteArray} (h : l.map (·.data.toList) = m.map (·.data.toList)) : l = m := by
  induction l generalizing m with
  | nil => cases m with
    | nil => rfl
    | cons y m => simp at h
  | cons x l ih => cases m with
    | nil => simp at h
    | cons y m =>
      simp only [List.map_cons, List.cons.injEq] at h
      rw [ba_ext h.1, ih h.2]
theorem parts_data (b : UInt8) (s : ByteArray) : (parts b s).map (·.data.toList) = cutAt b s.data.toList := by
  unfold parts; rw [List.map_map]
  exact List.map_id _
theorem lib_parts (b : UInt8) (s : ByteArray) : Lib.splitB ⟨#[b]⟩ 0 (Lib.countB s ⟨#[b]⟩) s = parts b s := by
  apply map_inj
  rw [parts_data, Lib.splitB_data]
  exact splitK_cut b _ _ rfl
theorem cutAt_ne (b : UInt8) (l : List UInt8) : 1 ≤ (cutAt b l).length := by
  cases l with
  | nil => simp [cutAt]
  | cons c r => unfold cutAt; split <;> simp
theorem cutAt_len (b : UInt8) : ∀ l : List UInt8, (cutAt b l).length ≤ l.length + 1
  | [] => Nat.le_refl _
  | c :: r => by
    have h1 := cutAt_len b r
    have h2 := cutAt_ne b r
    unfold cutAt; split
    · simp only [List.length_cons]; omega
    · simp only [List.length_cons, List.length_tail]; omega
theorem parts_len (b : UInt8) (s : ByteArray) : 1 ≤ (parts b s).length ∧ (parts b s).length ≤ s.size + 1 := by
  have h1 := cutAt_ne b s.data.toList
  have h2 := cutAt_len b s.data.toList
  unfold parts
  rw [List.length_map, ba_size]
  exact ⟨h1, h2⟩
theorem parts_count (b : UInt8) (s : ByteArray) : (parts b s).length = Lib.countB s ⟨#[b]⟩ + 1 := by
  have key : ∀ (n : Nat) (l : List UInt8), Lib.count l [b] = n → (Lib.splitK [b] 0 n l).length = n + 1 := by
    intro n
    induction n with
    | zero => intro l _; rfl
    | succ n ih =>
      intro l hn
      rcases Lib.index_spec l [b] with ⟨h, _⟩ | ⟨i, h, _⟩
      · rw [Lib.count_miss h] at hn; omega
      · rw [Lib.count_hit (by simp) h] at hn
        have hm : ¬ (Lib.index l [b] == -1) = true := fun e => by have := beq_iff_eq.1 e; omega
        have e : (Lib.index l [b]).toNat = i := by omega
        have hl1 : ([b] : List UInt8).length = 1 := rfl
        rw [hl1] at hn
        rw [Lib.splitK, if_neg hm, e, hl1, List.length_cons, ih _ (by omega)]
  unfold parts
  rw [List.length_map, ← splitK_cut b _ _ rfl, key _ _ rfl]
/-- the lengths of the pieces -/
def sizes (l : List ByteArray) : Nat := (l.map ByteArray.size).sum
theorem sizes_cut (b : UInt8) : ∀ l : List UInt8, ((cutAt b l).map List.length).sum + (cutAt b l).length = l.length + 1
  | [] => rfl
  | c :: r => by
    have h1 := sizes_cut b r
    have h2 := cutAt_ne b r
    unfold cutAt; split
    · simp only [List.map_cons, List.sum_cons, List.length_cons, List.length_nil]; omega
    · cases hc : cutAt b r with
      | nil => rw [hc] at h2; simp at h2
      | cons x t =>
        rw [hc] at h1
        simp only [List.map_cons, List.sum_cons, List.length_cons, List.headD_cons, List.tail_cons] at h1 ⊢
        omega
theorem sizes_parts (b : UInt8) (s : ByteArray) : sizes (parts b s) + (parts b s).length = s.size + 1 := by
  have := sizes_cut b s.data.toList
  unfold sizes parts
  rw [List.map_map, List.length_map, ba_size]
  exact this

/-- the cutting under way: k bytes were seen, the pieces before f are laid -/
def CutInv (b : UInt8) (s : ByteArray) (k f : Nat) (out : List ByteArray) : Prop :=
  f ≤ k ∧ out.length ≤ f ∧ cutAt b s.data.toList = out.map (·.data.toList) ++ cutAt b (s.data.toList.drop f) ∧ b ∉ (s.data.toList.drop f).take (k - f)
theorem cut_start (b : UInt8) (s : ByteArray) : CutInv b s 0 0 [] := ⟨Nat.le_refl _, Nat.le_refl _, rfl, by simp⟩
theorem cut_none {b : UInt8} {s : ByteArray} {k f : Nat} {out : List ByteArray} (h : CutInv b s k f out) (hk : k < s.size) (hb : s[k] ≠ b) : CutInv b s (k + 1) f out := by
  obtain ⟨h1, h2, h3, h4⟩ := h
  refine ⟨by omega, h2, h3, ?_⟩
  have hk' : k - f < (s.data.toList.drop f).length := by rw [List.length_drop, ← ba_size]; omega
  rw [show k + 1 - f = k - f + 1 by omega, List.take_succ_eq_append_getElem hk', List.mem_append]
  rintro (h5 | h5)
  · exact h4 h5
  · rw [List.mem_singleton, List.getElem_drop] at h5
    apply hb
    rw [h5]
    show s.data.toList[k] = _
    congr 1
    omega
theorem cut_one {b : UInt8} {s : ByteArray} {k f : Nat} {out : List ByteArray} (h : CutInv b s k f out) (hk : k < s.size) (hb : s[k] = b) : CutInv b s (k + 1) (k + 1) (out ++ [s.extract f k]) := by
  obtain ⟨h1, h2, h3, h4⟩ := h
  refine ⟨Nat.le_refl _, by rw [List.length_append]; show _ + 1 ≤ _; omega, ?_, by rw [Nat.sub_self]; simp⟩
  have hg : (s.data.toList.drop f)[k - f]? = some b := by
    rw [List.getElem?_drop, show f + (k - f) = k by omega, ← hb]
    exact List.getElem?_eq_getElem (by rw [← ba_size]; exact hk)
  have e := split_at b _ _ hg
  rw [h3, e, cutAt_hit b _ _ h4, List.drop_drop, List.map_append, List.append_assoc, show f + (k - f + 1) = k + 1 by omega]
  congr 1
  rw [List.map_cons, List.map_nil, List.singleton_append, ba_extract]
theorem cut_end {b : UInt8} {s : ByteArray} {f : Nat} {out : List ByteArray} (h : CutInv b s s.size f out) : out ++ [s.extract f s.size] = parts b s := by
  obtain ⟨h1, h2, h3, h4⟩ := h
  apply map_inj
  rw [parts_data, h3, List.map_append]
  have hl : (s.data.toList.drop f).take (s.size - f) = s.data.toList.drop f := List.take_of_length_le (by rw [List.length_drop, ← ba_size]; omega)
  rw [hl] at h4
  rw [cutAt_last b _ h4, List.map_cons, List.map_nil, ba_extract, hl]

/-- a translation: whether, and its atoms -/
def transOk (s : ByteArray) : Bool := decide (s.size ≤ 60) && (parts 32 s).all parseOk && decide ((parts 32 s).length ≤ 10)
def transOut (s : ByteArray) : List (Int × ByteArray) := if transOk s = true then (parts 32 s).map parseA else []
theorem trans_len (s : ByteArray) : (transOut s).length ≤ 10 := by
  unfold transOut; split
  · rename_i h
    simp only [transOk, Bool.and_eq_true, decide_eq_true_iff] at h
    rw [List.length_map]; exact h.2
  · exact Nat.zero_le _
theorem trans_ok {s : ByteArray} : ∀ p ∈ transOut s, atomOk p.1 p.2 = true := by
  unfold transOut; split
  · rename_i h
    simp only [transOk, Bool.and_eq_true, decide_eq_true_iff] at h
    intro p hp
    obtain ⟨x, hx, rfl⟩ := List.mem_map.1 hp
    exact (hit_iff.1 (parse_hit (List.all_eq_true.1 h.1.2 x hx))).1
  · intro p hp; cases hp
/-- the size of a list of atoms as text -/
def fmtSz (l : List (Int × ByteArray)) : Nat := (l.map fun p => (fmtA p.1 p.2).size).sum
/-- the reference's look at a list of atoms -/
def listOk (l : List (Int × ByteArray)) : Bool := inB l.length 1 10 && (l.all fun p => atomOk p.1 p.2) && decide (fmtSz l + l.length ≤ 61)
theorem parsed_fmt {l : List ByteArray} (h : l.all parseOk = true) : fmtSz (l.map parseA) = sizes l ∧ ((l.map parseA).all fun p => atomOk p.1 p.2) = true := by
  induction l with
  | nil => exact ⟨rfl, rfl⟩
  | cons x l ih =>
    simp only [List.all_cons, Bool.and_eq_true] at h
    obtain ⟨i1, i2⟩ := ih h.2
    obtain ⟨h1, h2⟩ := hit_iff.1 (parse_hit h.1)
    constructor
    · unfold fmtSz sizes at i1 ⊢
      rw [List.map_cons, List.map_cons, List.sum_cons, i1, h2, List.map_cons, List.sum_cons]
    · rw [List.map_cons, List.all_cons, i2, h1]; rfl
theorem list_parts {s : ByteArray} (h : s.size ≤ 60) (h1 : (parts 32 s).all parseOk = true) : listOk ((parts 32 s).map parseA) = decide ((parts 32 s).length ≤ 10) := by
  obtain ⟨i1, i2⟩ := parsed_fmt h1
  have h3 := sizes_parts 32 s
  have h4 := parts_len 32 s
  unfold listOk
  rw [i1, i2, List.length_map, Bool.and_true]
  apply Bool.eq_iff_iff.2
  simp only [inB, Bool.and_eq_true, decide_eq_true_iff]
  omega
theorem trans_no1 {s : ByteArray} (h : 60 < s.size) : transOk s = false := by simp [transOk]; omega
theorem trans_no2 {s : ByteArray} (h : (parts 32 s).all parseOk = false) : transOk s = false := by unfold transOk; rw [h, Bool.and_false, Bool.false_and]
theorem trans_is {s : ByteArray} (h : s.size ≤ 60) (h1 : (parts 32 s).all parseOk = true) : transOk s = decide ((parts 32 s).length ≤ 10) := by
  unfold transOk; rw [h1, decide_eq_true h]; rfl
theorem out_no {s : ByteArray} (h : transOk s = false) : transOut s = [] := by unfold transOut; rw [h]; rfl
theorem out_yes {s : ByteArray} (h : transOk s = true) : transOut s = (parts 32 s).map parseA := by unfold transOut; rw [if_pos h]

end Go.Proofs.Ytibchndfndgdeaa.Pl
