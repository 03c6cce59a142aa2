/-
  PLAIN: the words to which a suffix is joined so: the candidates, in order, each once. No program is in sight.
-/
import Derived.Test.YtfjdbchffhbidaaPlainLaws
import Derived.Sort.LotA
import Derived.Lib.SlicesCompact
namespace Go.Proofs.Ytfjdbchffhbidaa
namespace Pl
open Go.RowKit

/-- a text cut at its end -/
def chop (s : ByteArray) (n : Nat) : ByteArray := s.extract 0 (s.size - n)
theorem chop_data (s : ByteArray) (n : Nat) : (chop s n).data.toList = s.data.toList.take (s.size - n) := by
  unfold chop; rw [ba_extract, List.drop_zero, Nat.sub_zero]
theorem chop_app (a b : ByteArray) : chop (a ++ b) b.size = a := by
  apply ba_ext
  rw [chop_data, ba_append, ByteArray.size_append, Nat.add_sub_cancel, List.take_left' (ba_size a).symm]
theorem chop_app' {a b : ByteArray} {n : Nat} (h : b.size = n) : chop (a ++ b) n = a := by subst h; exact chop_app a b
theorem chop_size (s : ByteArray) (n : Nat) : (chop s n).size = s.size - n := by unfold chop; rw [ByteArray.size_extract]; omega
theorem ends_app (a b : ByteArray) : endsB (a ++ b) b = true := by
  unfold endsB Lib.hasSuffix
  rw [ba_append]
  simp
theorem ends_split {w e : ByteArray} (h : endsB w e = true) : w = chop w e.size ++ e := by
  unfold endsB Lib.hasSuffix at h
  obtain ⟨x, hx⟩ := List.isSuffixOf_iff_suffix.1 h
  have hl : w.size - e.size = x.length := by rw [ba_size w, ← hx, List.length_append, ba_size e]; omega
  apply ba_ext
  rw [ba_append, chop_data, hl, ← hx, List.take_left' rfl]
theorem last_split {w : ByteArray} {c : UInt8} (h : 1 ≤ w.size) (hc : byteAt w (w.size - 1) = (c.toNat : Int)) : w = chop w 1 ++ ⟨#[c]⟩ :=
  ends_split (e := ⟨#[c]⟩) (by rw [endsB_one w c h, hc]; simp)

/-- does joining t to w yield s -/
def splits (s t w : ByteArray) : Bool := isWord w && ((join w t).toList == s.toList)
theorem splits_iff {s t w : ByteArray} : splits s t w = true ↔ isWord w = true ∧ join w t = s := by
  unfold splits; rw [Bool.and_eq_true, beq_iff_eq, ba_toList, ba_toList]
  exact ⟨fun h => ⟨h.1, ba_ext h.2⟩, fun h => ⟨h.1, by rw [h.2]⟩⟩

def sg : ByteArray := ⟨#[115]⟩
def ing : ByteArray := ⟨#[105, 110, 103]⟩
/-- the stem and what it may have been -/
def stems (s t : ByteArray) : List ByteArray :=
  if endsB s t = true then
    [chop s t.size, chop s t.size ++ ⟨#[101]⟩] ++ (if 0 < (chop s t.size).size then [chop (chop s t.size) 1, chop (chop s t.size) 1 ++ ⟨#[121]⟩] else [])
  else []
theorem stems_mem {s t w : ByteArray} (h : endsB s t = true) (hw : w = chop s t.size ∨ w = chop s t.size ++ ⟨#[101]⟩ ∨ (0 < (chop s t.size).size ∧ (w = chop (chop s t.size) 1 ∨ w = chop (chop s t.size) 1 ++ ⟨#[121]⟩))) : w ∈ stems s t := by
  unfold stems
  rw [if_pos h]
  rcases hw with rfl | rfl | ⟨hz, hw⟩
  · simp
  · simp
  · rw [if_pos hz]
    rcases hw with rfl | rfl <;> simp
def extra (s e y : ByteArray) : List ByteArray := if endsB s e = true then [chop s e.size ++ y] else []
theorem extra_mem (a e y : ByteArray) : a ++ y ∈ extra (a ++ e) e y := by
  unfold extra; rw [if_pos (ends_app a e), chop_app]; simp
def e_ies : ByteArray := ⟨#[105, 101, 115]⟩
def e_es : ByteArray := ⟨#[101, 115]⟩
def e_ying : ByteArray := ⟨#[121, 105, 110, 103]⟩
def e_y : ByteArray := ⟨#[121]⟩
def e_ie : ByteArray := ⟨#[105, 101]⟩
/-- the candidates of the program -/
def cands (s t : ByteArray) : List ByteArray := stems s t ++ extra s e_ies e_y ++ extra s e_es ⟨#[]⟩ ++ extra s e_ying e_ie
/-- .. of the reference -/
def cands2 (s t : ByteArray) : List ByteArray :=
  stems s t ++ (if t = sg then extra s e_es ⟨#[]⟩ else []) ++ (if t = sg then extra s e_ies e_y else []) ++ (if t = ing then extra s e_ying e_ie else [])

theorem app_nil (a : ByteArray) : a ++ (⟨#[]⟩ : ByteArray) = a := by apply ba_ext; rw [ba_append]; simp
theorem eq_of_list {t : ByteArray} {l : List UInt8} (h : (t.toList == l) = true) : t = ⟨⟨l⟩⟩ := by
  have h1 : t.toList = l := by simpa using h
  apply ba_ext; rw [← ba_toList, h1]
theorem endsAny_one {w e : ByteArray} (h : endsAny w [e] = true) : endsB w e = true := by simpa [endsAny] using h

theorem splits_cands2 {s t w : ByteArray} (h : join w t = s) : w ∈ cands2 s t := by
  unfold cands2
  simp only [List.mem_append]
  rcases rule_cases w t with hr | hr | hr | hr | hr | hr | hr
  · rw [join0 hr] at h; subst h
    exact .inl (.inl (.inl (stems_mem (ends_app _ _) (.inl (chop_app _ _).symm))))
  · rw [join1 hr] at h; subst h
    have ht := rule_t1 hr
    simp only [t1, Bool.and_eq_true] at ht
    have h1 := eq_of_list ht.1
    have h2 := ht.2
    simp only [consY, Bool.and_eq_true, decide_eq_true_iff, beq_iff_eq] at h2
    have h3 := last_split (c := 121) (by omega) h2.1.2
    refine .inl (.inr ?_)
    rw [if_pos (show t = sg from h1)]
    have := extra_mem (chop w 1) e_ies e_y
    rwa [show chop w 1 ++ e_y = w from h3.symm] at this
  · rw [join2 hr] at h; subst h
    have ht := rule_t2 hr
    simp only [t2, Bool.and_eq_true] at ht
    have h1 := eq_of_list ht.1
    refine .inl (.inl (.inr ?_))
    rw [if_pos (show t = sg from h1)]
    have := extra_mem w e_es ⟨#[]⟩
    rwa [app_nil] at this
  · rw [join3 hr] at h; subst h
    have ht := rule_t3 hr
    simp only [t3, Bool.and_eq_true] at ht
    have h1 := eq_of_list ht.1
    have h3 := ends_split (endsAny_one ht.2)
    refine .inr ?_
    rw [if_pos (show t = ing from h1)]
    have := extra_mem (chop w 2) e_ying e_ie
    rwa [show chop w 2 ++ e_ie = w from h3.symm] at this
  · rw [join4 hr] at h; subst h
    have ht := rule_t4 hr
    simp only [t4, Bool.and_eq_true] at ht
    have h2 := ht.1
    simp only [consY, Bool.and_eq_true, decide_eq_true_iff, beq_iff_eq] at h2
    have h3 := last_split (c := 121) (by omega) h2.1.2
    refine .inl (.inl (.inl (stems_mem (ends_app _ _) (.inr (.inr ?_)))))
    rw [chop_app]
    have hz : (⟨#[105]⟩ : ByteArray).size = 1 := rfl
    refine ⟨by rw [ByteArray.size_append, hz]; omega, .inr ?_⟩
    rw [chop_app' hz]
    exact h3
  · rw [join5 hr] at h; subst h
    have ht := rule_t5 hr
    simp only [t5, Bool.and_eq_true] at ht
    have h3 := ends_split (endsAny_one ht.1.1.2)
    refine .inl (.inl (.inl (stems_mem (ends_app _ _) (.inr (.inl ?_)))))
    rw [chop_app]
    exact h3
  · rw [join6 hr] at h; subst h
    have ht := rule_t6 hr
    simp only [t6, closedB, Bool.and_eq_true, decide_eq_true_iff] at ht
    have h2 := ht.1.2.1.1.1.1
    have hz : (w.extract (w.size - 1) w.size).size = 1 := by rw [ByteArray.size_extract]; omega
    refine .inl (.inl (.inl (stems_mem (ends_app _ _) (.inr (.inr ?_)))))
    rw [chop_app]
    refine ⟨by rw [ByteArray.size_append, hz]; omega, .inl ?_⟩
    rw [chop_app' hz]
theorem cands2_cands {s t w : ByteArray} (h : w ∈ cands2 s t) : w ∈ cands s t := by
  unfold cands2 at h
  unfold cands
  simp only [List.mem_append] at h ⊢
  rcases h with ((h | h) | h) | h
  · exact .inl (.inl (.inl h))
  · split at h
    · exact .inl (.inr h)
    · simp at h
  · split at h
    · exact .inl (.inl (.inr h))
    · simp at h
  · split at h
    · exact .inr h
    · simp at h

/-- the order of texts -/
def ltB (x y : ByteArray) : Bool := decide (x.data.toList < y.data.toList)
theorem ltB_irr (x : ByteArray) : ltB x x = false := by simp [ltB, List.lt_irrefl]
theorem ltB_trans {x y z : ByteArray} (h1 : ltB x y = true) (h2 : ltB y z = true) : ltB x z = true := by
  simp only [ltB, decide_eq_true_eq] at *; exact List.lt_trans h1 h2
theorem ltB_asym {x y : ByteArray} (h1 : ltB x y = true) : ltB y x = false := by
  cases h : ltB y x
  · rfl
  · have := ltB_trans h1 h; rw [ltB_irr] at this; cases this
theorem ltB_tri {x y : ByteArray} (h1 : ltB x y = false) (h2 : ltB y x = false) : x = y := by
  simp only [ltB, decide_eq_false_iff_not, List.not_lt] at *
  exact ba_ext (List.le_antisymm h2 h1)
theorem ltB_not {x y z : ByteArray} (h1 : ltB x y = false) (h2 : ltB y z = false) : ltB x z = false := by
  simp only [ltB, decide_eq_false_iff_not, List.not_lt] at *
  exact List.le_trans h2 h1

def Asc (l : List ByteArray) : Prop := l.Pairwise fun x y => ltB x y = true
/-- an ascending list is told by its members -/
theorem asc_ext {l m : List ByteArray} (hl : Asc l) (hm : Asc m) (h : ∀ x, x ∈ l ↔ x ∈ m) : l = m := by
  induction l generalizing m with
  | nil =>
    cases m with
    | nil => rfl
    | cons y m => exact absurd ((h y).2 (by simp)) (by simp)
  | cons x l ih =>
    cases m with
    | nil => exact absurd ((h x).1 (by simp)) (by simp)
    | cons y m =>
      unfold Asc at hl hm
      rw [List.pairwise_cons] at hl hm
      have e : x = y := by
        have h1 := (h x).1 (by simp)
        have h2 := (h y).2 (by simp)
        rcases List.mem_cons.1 h1 with h1 | h1
        · exact h1
        · rcases List.mem_cons.1 h2 with h2 | h2
          · exact h2.symm
          · have a := hm.1 x h1; have b := hl.1 y h2
            rw [ltB_asym a] at b; cases b
      subst e
      congr 1
      refine ih hl.2 hm.2 fun z => ?_
      constructor
      · intro hz
        rcases List.mem_cons.1 ((h z).1 (List.mem_cons_of_mem _ hz)) with e | e
        · subst e; have := hl.1 z hz; rw [ltB_irr] at this; cases this
        · exact e
      · intro hz
        rcases List.mem_cons.1 ((h z).2 (List.mem_cons_of_mem _ hz)) with e | e
        · subst e; have := hm.1 z hz; rw [ltB_irr] at this; cases this
        · exact e

/-- where a word goes -/
def place (l : List ByteArray) (w : ByteArray) : Nat := (l.takeWhile fun x => ltB x w).length
/-- a word put to its place, once -/
def ins (l : List ByteArray) (w : ByteArray) : List ByteArray :=
  if l[place l w]? = some w then l else l.take (place l w) ++ [w] ++ l.drop (place l w)
theorem place_le (l : List ByteArray) (w : ByteArray) : place l w ≤ l.length := by unfold place; exact List.Sublist.length_le (List.takeWhile_sublist _)
theorem ins_mem {l : List ByteArray} {w x : ByteArray} : x ∈ ins l w ↔ x ∈ l ∨ x = w := by
  unfold ins
  split
  · rename_i h
    have := List.mem_of_getElem? h
    constructor
    · exact .inl
    · rintro (h | rfl)
      · exact h
      · exact this
  · simp only [List.mem_append, List.mem_singleton]
    constructor
    · rintro ((h | h) | h)
      · exact .inl (List.mem_of_mem_take h)
      · exact .inr h
      · exact .inl (List.mem_of_mem_drop h)
    · rintro (h | h)
      · have e := List.take_append_drop (place l w) l
        rw [← e] at h
        rcases List.mem_append.1 h with h | h
        · exact .inl (.inl h)
        · exact .inr h
      · exact .inl (.inr h)
theorem takeWhile_take (l : List ByteArray) (w : ByteArray) : l.take (place l w) = l.takeWhile fun x => ltB x w := by
  unfold place
  have e := List.takeWhile_append_dropWhile (p := fun x => ltB x w) (l := l)
  generalize hA : l.takeWhile (fun x => ltB x w) = A at e ⊢
  rw [← e, List.take_left' rfl]
theorem drop_dropWhile (l : List ByteArray) (w : ByteArray) : l.drop (place l w) = l.dropWhile fun x => ltB x w := by
  unfold place
  have e := List.takeWhile_append_dropWhile (p := fun x => ltB x w) (l := l)
  generalize hA : l.takeWhile (fun x => ltB x w) = A at e ⊢
  rw [← e, List.drop_left' rfl, e]
theorem ins_asc {l : List ByteArray} {w : ByteArray} (h : Asc l) : Asc (ins l w) := by
  unfold ins
  split
  · exact h
  · rename_i hne
    have h1 : ∀ x ∈ l.take (place l w), ltB x w = true := by
      intro x hx
      rw [takeWhile_take] at hx
      exact List.all_eq_true.1 List.all_takeWhile x hx
    have h2 : ∀ x ∈ l.drop (place l w), ltB w x = true := by
      have hasc : Asc (l.drop (place l w)) := List.Pairwise.sublist (List.drop_sublist _ _) h
      have hd := drop_dropWhile l w
      cases hc : l.drop (place l w) with
      | nil => intro x hx; cases hx
      | cons y r =>
        have hy : ltB y w = false := by
          rw [hc] at hd
          have := List.head?_dropWhile_not (fun x => ltB x w) l
          rw [← hd] at this
          simpa using this
        have hyw : y ≠ w := by
          intro e
          apply hne
          have h0 : l[place l w]? = (l.drop (place l w))[0]? := by rw [List.getElem?_drop, Nat.add_zero]
          rw [h0, hc, e]; rfl
        have hwy : ltB w y = true := by
          cases hh : ltB w y
          · exact absurd (ltB_tri hy hh) hyw
          · rfl
        rw [hc] at hasc
        unfold Asc at hasc
        rw [List.pairwise_cons] at hasc
        intro x hx
        rcases List.mem_cons.1 hx with rfl | hx
        · exact hwy
        · exact ltB_trans hwy (hasc.1 x hx)
    unfold Asc at h ⊢
    rw [List.append_assoc, List.pairwise_append]
    refine ⟨List.Pairwise.sublist (List.take_sublist _ _) h, ?_, ?_⟩
    · rw [List.singleton_append, List.pairwise_cons]
      exact ⟨h2, List.Pairwise.sublist (List.drop_sublist _ _) h⟩
    · intro a ha b hb
      rw [List.singleton_append] at hb
      rcases List.mem_cons.1 hb with rfl | hb
      · exact h1 a ha
      · exact ltB_trans (h1 a ha) (h2 b hb)

/-- a candidate tried -/
def tryIn (s t : ByteArray) (l : List ByteArray) (w : ByteArray) : List ByteArray := if splits s t w = true then ins l w else l
theorem tryIn_asc {s t : ByteArray} {l : List ByteArray} {w : ByteArray} (h : Asc l) : Asc (tryIn s t l w) := by
  unfold tryIn; split
  · exact ins_asc h
  · exact h
theorem tryIn_mem {s t : ByteArray} {l : List ByteArray} {w x : ByteArray} : x ∈ tryIn s t l w ↔ x ∈ l ∨ (x = w ∧ splits s t w = true) := by
  unfold tryIn; split
  · rename_i h; rw [ins_mem]; simp [h]
  · rename_i h; simp [h]
theorem tries_told (s t : ByteArray) (c l : List ByteArray) (h : Asc l) : Asc (c.foldl (tryIn s t) l) ∧ ∀ x, x ∈ c.foldl (tryIn s t) l ↔ x ∈ l ∨ (x ∈ c ∧ splits s t x = true) := by
  induction c generalizing l with
  | nil => exact ⟨h, fun x => by simp⟩
  | cons w c ih =>
    obtain ⟨h1, h2⟩ := ih (tryIn s t l w) (tryIn_asc h)
    refine ⟨h1, fun x => ?_⟩
    rw [List.foldl_cons, h2 x, tryIn_mem, List.mem_cons]
    constructor
    · rintro ((h | ⟨rfl, h⟩) | ⟨h, h'⟩)
      · exact .inl h
      · exact .inr ⟨.inl rfl, h⟩
      · exact .inr ⟨.inr h, h'⟩
    · rintro (h | ⟨rfl | h, h'⟩)
      · exact .inl (.inl h)
      · exact .inl (.inr ⟨rfl, h'⟩)
      · exact .inr ⟨h, h'⟩
/-- the words that SplitSuffix returns -/
def splitL (s t : ByteArray) : List ByteArray := (cands2 s t).foldl (tryIn s t) []
theorem splitL_asc (s t : ByteArray) : Asc (splitL s t) := (tries_told s t (cands2 s t) [] List.Pairwise.nil).1
theorem splitL_mem {s t w : ByteArray} : w ∈ splitL s t ↔ splits s t w = true := by
  rw [splitL, (tries_told s t (cands2 s t) [] List.Pairwise.nil).2 w]
  constructor
  · rintro (h | h)
    · cases h
    · exact h.2
  · intro h; exact .inr ⟨splits_cands2 (splits_iff.1 h).2, h⟩
/-- whatever ascending list with the candidates as its members: what passes of it is the same list -/
theorem splitL_of {s t : ByteArray} {l : List ByteArray} (h1 : Asc l) (h2 : ∀ x, x ∈ l ↔ x ∈ cands s t) : l.filter (splits s t) = splitL s t := by
  refine asc_ext (List.Pairwise.sublist List.filter_sublist h1) (splitL_asc s t) fun x => ?_
  rw [List.mem_filter, splitL_mem, h2]
  constructor
  · exact fun h => h.2
  · intro h; exact ⟨cands2_cands (splits_cands2 (splits_iff.1 h).2), h⟩
theorem chop_chop (s : ByteArray) (a : Nat) : (chop s a).size ≤ s.size := by rw [chop_size]; omega
theorem stems_size {s t w : ByteArray} (h : w ∈ stems s t) : w.size ≤ s.size + 4 := by
  have z1 := chop_chop s t.size
  have z2 := chop_chop (chop s t.size) 1
  have k1 : (⟨#[101]⟩ : ByteArray).size = 1 := rfl
  have k2 : (⟨#[121]⟩ : ByteArray).size = 1 := rfl
  unfold stems at h
  split at h
  · split at h
    · simp only [List.cons_append, List.nil_append, List.mem_cons, List.not_mem_nil, or_false] at h
      rcases h with rfl | rfl | rfl | rfl
      · omega
      · rw [ByteArray.size_append]; omega
      · omega
      · rw [ByteArray.size_append]; omega
    · simp only [List.append_nil, List.mem_cons, List.not_mem_nil, or_false] at h
      rcases h with rfl | rfl
      · omega
      · rw [ByteArray.size_append]; omega
  · cases h
theorem extra_size {s e y w : ByteArray} (hy : y.size ≤ 4) (h : w ∈ extra s e y) : w.size ≤ s.size + 4 := by
  have z1 := chop_chop s e.size
  unfold extra at h
  split at h
  · simp only [List.mem_cons, List.not_mem_nil, or_false] at h
    rw [h, ByteArray.size_append]; omega
  · cases h
theorem cands_size {s t w : ByteArray} (h : w ∈ cands s t) : w.size ≤ s.size + 4 := by
  unfold cands at h
  simp only [List.mem_append] at h
  rcases h with ((h | h) | h) | h
  · exact stems_size h
  · exact extra_size (by decide) h
  · exact extra_size (by decide) h
  · exact extra_size (by decide) h

/-- sorted, then each once -/
theorem compact_asc {l : List (List UInt8)} (hs : l.Pairwise fun x y => x ≤ y) : (Lib.compact l).Pairwise (fun x y => x < y) ∧ ∀ x, x ∈ Lib.compact l ↔ x ∈ l := by
  have hle : ∀ i j (hi : i ≤ j) (hj : j < l.length), l[i]'(by omega) ≤ l[j] := by
    intro i j hi hj
    rcases Nat.lt_or_eq_of_le hi with h | rfl
    · exact List.pairwise_iff_getElem.1 hs i j (by omega) hj h
    · exact List.le_refl _
  have key : ∀ m, m ≤ l.length → (Lib.compactUpTo l.toArray m).Pairwise (fun x y => x < y) ∧ ∀ x, x ∈ Lib.compactUpTo l.toArray m ↔ x ∈ l.take m := by
    intro m
    induction m with
    | zero => intro _; simp [Lib.compactUpTo]
    | succ m ih =>
      intro hm
      obtain ⟨h1, h2⟩ := ih (by omega)
      have hg : l.toArray[m]! = l[m] := by simp [getElem!_pos, show m < l.length by omega]
      rw [Lib.compactUpTo_succ, hg, List.take_succ_eq_append_getElem (by omega)]
      have hmem : ∀ x ∈ Lib.compactUpTo l.toArray m, ∃ i, ∃ h : i < m, x = l[i]'(by omega) := by
        intro x hx
        have := (h2 x).1 hx
        obtain ⟨i, hi, e⟩ := List.mem_take_iff_getElem.1 this
        exact ⟨i, by omega, e.symm⟩
      by_cases hk : Lib.keeps l.toArray m = true
      · rw [if_pos hk]
        refine ⟨?_, fun x => by rw [List.mem_append, List.mem_append, h2 x]⟩
        rw [List.pairwise_append]
        refine ⟨h1, List.pairwise_singleton _ _, fun a ha b hb => ?_⟩
        have hb := List.mem_singleton.1 hb
        subst hb
        obtain ⟨i, hi, rfl⟩ := hmem a ha
        have hne : m = 0 ∨ l[m] ≠ l[m - 1]'(by omega) := by
          have := hk
          simp only [Lib.keeps, decide_eq_true_iff] at this
          rcases this with h | h
          · exact .inl h
          · refine .inr ?_
            rw [hg] at h
            have hg2 : l.toArray[m - 1]! = l[m - 1]'(by omega) := by simp [getElem!_pos, show m - 1 < l.length by omega]
            rw [hg2] at h
            exact h
        rcases hne with h | h
        · omega
        · have a1 := hle i (m - 1) (by omega) (by omega)
          have a2 := hle (m - 1) m (by omega) (by omega)
          have a3 : l[m - 1]'(by omega) < l[m] := by
            rcases List.le_iff_lt_or_eq.1 a2 with h' | h'
            · exact h'
            · exact absurd h'.symm h
          rcases List.le_iff_lt_or_eq.1 a1 with h' | h'
          · exact List.lt_trans h' a3
          · rw [h']; exact a3
      · rw [if_neg hk, List.append_nil]
        refine ⟨h1, fun x => ?_⟩
        rw [h2 x, List.mem_append, List.mem_singleton]
        constructor
        · exact .inl
        · rintro (h | rfl)
          · exact h
          · simp only [Lib.keeps, decide_eq_true_iff, not_or, Classical.not_not] at hk
            obtain ⟨h0, h3⟩ := hk
            rw [hg] at h3
            have hg2 : l.toArray[m - 1]! = l[m - 1]'(by omega) := by simp [getElem!_pos, show m - 1 < l.length by omega]
            rw [hg2] at h3
            rw [h3]
            exact List.mem_take_iff_getElem.2 ⟨m - 1, by omega, rfl⟩
  have := key l.length (Nat.le_refl _)
  rw [List.take_length] at this
  exact this

end Pl
end Go.Proofs.Ytfjdbchffhbidaa
