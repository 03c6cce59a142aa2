/-
  PLAIN: the notation of atoms and of translations, and how both are read. No program is in sight.
-/
import Derived.Test.YtibchndfndgdeaaPlainAtom
import Derived.Lib.SlTrimSet
import Derived.Lib.Split
import Derived.KernelRfl
namespace Go.Proofs.Ytibchndfndgdeaa.Pl
open Go.RowKit

/-- the notation of an atom -/
def fmtA (a : Int) (x : ByteArray) : ByteArray :=
  if a = 1 then x
  else if a = 2 then ⟨#[123, 94]⟩ ++ x ++ ⟨#[125]⟩
  else if a = 3 then ⟨#[123]⟩ ++ x ++ ⟨#[94, 125]⟩
  else if a = 4 then ⟨#[123, 94]⟩ ++ x ++ ⟨#[94, 125]⟩
  else if a = 5 then ⟨#[123, 38]⟩ ++ x ++ ⟨#[125]⟩
  else if a = 8 then ⟨#[123, 45, 124, 125]⟩
  else if a = 9 then ⟨#[123, 62, 125]⟩
  else if a = 10 then ⟨#[123, 42, 45, 124, 125]⟩
  else ⟨#[123]⟩ ++ x ++ ⟨#[125]⟩

/-- an atom out of what stands between the braces -/
def kindM (m : ByteArray) : Int × ByteArray :=
  if (m.toList == [45, 124]) = true then (8, ⟨#[]⟩)
  else if (m.toList == [62]) = true then (9, ⟨#[]⟩)
  else if (m.toList == [42, 45, 124]) = true then (10, ⟨#[]⟩)
  else if isStop m = true then (6, m)
  else if isPause m = true then (7, m)
  else if byteAt m 0 = 38 then (5, m.extract 1 m.size)
  else if byteAt m 0 = 94 ∧ byteAt m (m.size - 1) = 94 ∧ 2 < m.size then (4, m.extract 1 (m.size - 1))
  else if byteAt m 0 = 94 then (2, m.extract 1 m.size)
  else if byteAt m (m.size - 1) = 94 then (3, m.extract 0 (m.size - 1))
  else (0, ⟨#[]⟩)
def braced (s : ByteArray) : Bool := decide (3 ≤ s.size) && (byteAt s 0 == 123) && (byteAt s (s.size - 1) == 125)
def kindA (s : ByteArray) : Int × ByteArray := if braced s = true then kindM (s.extract 1 (s.size - 1)) else (1, s)

theorem byteAt_list (s : ByteArray) (i : Nat) : byteAt s i = ((s.data.toList.getD i 0).toNat : Int) := rfl
theorem byteAt_mk (l : List UInt8) (i : Nat) : byteAt ⟨⟨l⟩⟩ i = ((l.getD i 0).toNat : Int) := rfl
theorem ba_mk (x : ByteArray) : ∃ l : List UInt8, x = ⟨⟨l⟩⟩ := ⟨x.data.toList, rfl⟩
theorem ba_eta (x : ByteArray) : (⟨⟨x.data.toList⟩⟩ : ByteArray) = x := rfl
theorem mk_append (l m : List UInt8) : (⟨⟨l⟩⟩ ++ ⟨⟨m⟩⟩ : ByteArray) = ⟨⟨l ++ m⟩⟩ := ba_ext (by rw [ba_append])
theorem mk_extract (l : List UInt8) (i j : Nat) : (⟨⟨l⟩⟩ : ByteArray).extract i j = ⟨⟨(l.drop i).take (j - i)⟩⟩ := ba_ext (by rw [ba_extract])
theorem mk_size (l : List UInt8) : (⟨⟨l⟩⟩ : ByteArray).size = l.length := rfl
theorem mk_list (l : List UInt8) : (⟨⟨l⟩⟩ : ByteArray).toList = l := ba_toList _
theorem good_not {c : UInt8} (h : goodB (c.toNat : Int) = true) : c ≠ 123 ∧ c ≠ 125 ∧ c ≠ 94 ∧ c ≠ 38 := by
  refine ⟨?_, ?_, ?_, ?_⟩ <;> (rintro rfl; revert h; decide)
theorem wordT_mk {l : List UInt8} (h : wordT ⟨⟨l⟩⟩ = true) : (∀ c ∈ l, goodB (c.toNat : Int) = true) ∧ 1 ≤ l.length ∧ l.length ≤ 20 := by
  simp only [wordT, allGood, inB, Bool.and_eq_true, decide_eq_true_iff] at h
  have h1 := List.all_eq_true.1 h.1
  have hz : (⟨⟨l⟩⟩ : ByteArray).size = l.length := rfl
  rw [hz] at h
  exact ⟨h1, by omega, by omega⟩
theorem nat_ne {c d : UInt8} (h : c ≠ d) : ¬ ((c.toNat : Int) = (d.toNat : Int)) := fun e => h (UInt8.toNat_inj.1 (by omega))

/-- what stands in braces -/
theorem kindA_br (m : List UInt8) (hm : 1 ≤ m.length) : kindA ⟨⟨123 :: (m ++ [125])⟩⟩ = kindM ⟨⟨m⟩⟩ := by
  have hb : braced ⟨⟨123 :: (m ++ [125])⟩⟩ = true := by
    have e : (123 :: (m ++ [125])).getD (m.length + 1) 0 = (125 : UInt8) := by
      rw [List.getD_cons_succ, List.getD_eq_getElem?_getD, List.getElem?_append_right (Nat.le_refl _)]; simp
    simp only [braced, byteAt_mk, mk_size, List.length_cons, List.length_append, List.length_nil, Nat.add_sub_cancel]
    rw [show m.length + (0 + 1) = m.length + 1 by omega, e]
    simp
    omega
  unfold kindA
  rw [if_pos hb, mk_extract, mk_size]
  congr 2
  simp
theorem atomOk_six (x : ByteArray) : atomOk 6 x = isStop x := rfl
theorem atomOk_seven (x : ByteArray) : atomOk 7 x = isPause x := rfl
theorem atomOk_bare {a : Int} {x : ByteArray} (h : atomOk a x = true) (ha : a = 8 ∨ a = 9 ∨ a = 10) : x = ⟨#[]⟩ := by
  unfold atomOk at h
  rw [if_neg (by omega), if_neg (by omega), if_neg (by omega)] at h
  simp only [Bool.and_eq_true] at h
  apply size_none
  have h2 := h.2
  rw [ba_toList, List.isEmpty_iff] at h2
  rw [ba_size, h2]; rfl
theorem last_snoc (l : List UInt8) (c : UInt8) (k : Nat) (hk : k = l.length) : (l ++ [c]).getD k 0 = c := by
  subst hk; rw [List.getD_eq_getElem?_getD, List.getElem?_append_right (Nat.le_refl _)]; simp
theorem last_mem (l : List UInt8) (h : 1 ≤ l.length) : l.getD (l.length - 1) 0 ∈ l := by
  rw [List.getD_eq_getElem?_getD, List.getElem?_eq_getElem (by omega)]
  exact List.getElem_mem _
theorem stop_mk {m : List UInt8} (h : isStop ⟨⟨m⟩⟩ = true) : m = [46] ∨ m = [33] ∨ m = [63] := by
  simp only [isStop, mk_list, Bool.or_eq_true, beq_iff_eq] at h
  rcases h with (h | h) | h
  · exact .inl h
  · exact .inr (.inl h)
  · exact .inr (.inr h)
theorem pause_mk {m : List UInt8} (h : isPause ⟨⟨m⟩⟩ = true) : m = [44] ∨ m = [59] ∨ m = [58] := by
  simp only [isPause, mk_list, Bool.or_eq_true, beq_iff_eq] at h
  rcases h with (h | h) | h
  · exact .inl h
  · exact .inr (.inl h)
  · exact .inr (.inr h)
/-- what begins with the sign of a suffix, an infix or a glue is none of the fixed notations -/
theorem kindM_head (c : UInt8) (r : List UInt8) (hc : c = 94 ∨ c = 38) :
    ((⟨⟨c :: r⟩⟩ : ByteArray).toList == [45, 124]) = false ∧ ((⟨⟨c :: r⟩⟩ : ByteArray).toList == [62]) = false ∧ ((⟨⟨c :: r⟩⟩ : ByteArray).toList == [42, 45, 124]) = false ∧ isStop ⟨⟨c :: r⟩⟩ = false ∧ isPause ⟨⟨c :: r⟩⟩ = false := by
  simp only [isStop, isPause, mk_list]
  rcases hc with rfl | rfl <;> simp
theorem kindM_last (r : List UInt8) (_hr : 1 ≤ r.length) :
    ((⟨⟨r ++ [94]⟩⟩ : ByteArray).toList == [45, 124]) = false ∧ ((⟨⟨r ++ [94]⟩⟩ : ByteArray).toList == [62]) = false ∧ ((⟨⟨r ++ [94]⟩⟩ : ByteArray).toList == [42, 45, 124]) = false ∧ isStop ⟨⟨r ++ [94]⟩⟩ = false ∧ isPause ⟨⟨r ++ [94]⟩⟩ = false := by
  simp only [isStop, isPause, mk_list]
  have key : ∀ (l : List UInt8), l.getLast? ≠ some 94 → ((r ++ [94]) == l) = false := by
    intro l hl
    rw [beq_eq_false_iff_ne]
    intro e
    apply hl
    rw [← e]; simp
  rw [key _ (by decide), key _ (by decide), key _ (by decide), key _ (by decide), key _ (by decide), key _ (by decide), key _ (by decide), key _ (by decide), key _ (by decide)]
  simp

theorem atom_word {a : Int} {x : ByteArray} (h : atomOk a x = true) (ha : a = 1 ∨ a = 2 ∨ a = 3 ∨ a = 4 ∨ a = 5) : wordT x = true := by
  unfold atomOk at h; rwa [if_pos ha] at h

/-- the notation of a valid atom is read as that atom -/
theorem kind_fmt {a : Int} {x : ByteArray} (h : atomOk a x = true) : kindA (fmtA a x) = (a, x) := by
  obtain ⟨l, rfl⟩ := ba_mk x
  rcases atomOk_cases h with rfl | rfl | rfl | rfl | rfl | rfl | rfl | rfl | rfl | rfl
  · obtain ⟨hg, h1, h2⟩ := wordT_mk (atom_word h (.inl rfl))
    show kindA ⟨⟨l⟩⟩ = _
    have hb : braced ⟨⟨l⟩⟩ = false := by
      cases l with
      | nil => simp at h1
      | cons c r =>
        have h0 : (byteAt ⟨⟨c :: r⟩⟩ 0 == 123) = false := by
          rw [byteAt_mk, List.getD_cons_zero, beq_eq_false_iff_ne]
          exact nat_ne (good_not (hg c (by simp))).1
        unfold braced
        rw [h0, Bool.and_false, Bool.false_and]
    unfold kindA
    rw [if_neg (by rw [hb]; decide)]
  · obtain ⟨hg, h1, h2⟩ := wordT_mk (atom_word h (.inr (.inl rfl)))
    have e : fmtA 2 ⟨⟨l⟩⟩ = ⟨⟨123 :: ((94 :: l) ++ [125])⟩⟩ := by
      show (⟨⟨[123, 94]⟩⟩ ++ ⟨⟨l⟩⟩ ++ ⟨⟨[125]⟩⟩ : ByteArray) = _
      rw [mk_append, mk_append]; rfl
    obtain ⟨k1, k2, k3, k4, k5⟩ := kindM_head 94 l (.inl rfl)
    have k6 : ¬ byteAt ⟨⟨94 :: l⟩⟩ 0 = 38 := by rw [byteAt_mk, List.getD_cons_zero]; decide
    have k7 : byteAt ⟨⟨94 :: l⟩⟩ 0 = 94 := by rw [byteAt_mk]; rfl
    have k8 : ¬ byteAt ⟨⟨94 :: l⟩⟩ ((⟨⟨94 :: l⟩⟩ : ByteArray).size - 1) = 94 := by
      rw [byteAt_mk, mk_size, List.length_cons, show l.length + 1 - 1 = (l.length - 1) + 1 by omega, List.getD_cons_succ]
      exact nat_ne (good_not (hg _ (last_mem l h1))).2.2.1
    rw [e, kindA_br _ (by simp)]
    unfold kindM
    rw [k1, k2, k3, k4, k5, if_neg (by decide), if_neg (by decide), if_neg (by decide), if_neg (by decide), if_neg (by decide), if_neg k6, if_neg (fun h => k8 h.2.1), if_pos k7, mk_extract, mk_size]
    simp
  · obtain ⟨hg, h1, h2⟩ := wordT_mk (atom_word h (.inr (.inr (.inl rfl))))
    have e : fmtA 3 ⟨⟨l⟩⟩ = ⟨⟨123 :: ((l ++ [94]) ++ [125])⟩⟩ := by
      show (⟨⟨[123]⟩⟩ ++ ⟨⟨l⟩⟩ ++ ⟨⟨[94, 125]⟩⟩ : ByteArray) = _
      rw [mk_append, mk_append]; simp
    obtain ⟨k1, k2, k3, k4, k5⟩ := kindM_last l h1
    have hd : (l ++ [94]).getD 0 0 ∈ l := by
      cases l with
      | nil => simp at h1
      | cons c r => simp
    have k6 : ¬ byteAt ⟨⟨l ++ [94]⟩⟩ 0 = 38 := by rw [byteAt_mk]; exact nat_ne (good_not (hg _ hd)).2.2.2
    have k7 : ¬ byteAt ⟨⟨l ++ [94]⟩⟩ 0 = 94 := by rw [byteAt_mk]; exact nat_ne (good_not (hg _ hd)).2.2.1
    have k8 : byteAt ⟨⟨l ++ [94]⟩⟩ ((⟨⟨l ++ [94]⟩⟩ : ByteArray).size - 1) = 94 := by
      rw [byteAt_mk, mk_size, last_snoc _ _ _ (by simp)]; rfl
    rw [e, kindA_br _ (by simp)]
    unfold kindM
    rw [k1, k2, k3, k4, k5, if_neg (by decide), if_neg (by decide), if_neg (by decide), if_neg (by decide), if_neg (by decide), if_neg k6, if_neg (fun h => k7 h.1), if_neg k7, if_pos k8, mk_extract, mk_size]
    simp
  · obtain ⟨hg, h1, h2⟩ := wordT_mk (atom_word h (.inr (.inr (.inr (.inl rfl)))))
    have e : fmtA 4 ⟨⟨l⟩⟩ = ⟨⟨123 :: ((94 :: (l ++ [94])) ++ [125])⟩⟩ := by
      show (⟨⟨[123, 94]⟩⟩ ++ ⟨⟨l⟩⟩ ++ ⟨⟨[94, 125]⟩⟩ : ByteArray) = _
      rw [mk_append, mk_append]; simp
    obtain ⟨k1, k2, k3, k4, k5⟩ := kindM_head 94 (l ++ [94]) (.inl rfl)
    have k6 : ¬ byteAt ⟨⟨94 :: (l ++ [94])⟩⟩ 0 = 38 := by rw [byteAt_mk, List.getD_cons_zero]; decide
    have k7 : byteAt ⟨⟨94 :: (l ++ [94])⟩⟩ 0 = 94 := by rw [byteAt_mk]; rfl
    have k8 : byteAt ⟨⟨94 :: (l ++ [94])⟩⟩ ((⟨⟨94 :: (l ++ [94])⟩⟩ : ByteArray).size - 1) = 94 := by
      rw [byteAt_mk, mk_size, ← List.cons_append, last_snoc _ _ _ (by simp)]; rfl
    have k9 : 2 < (⟨⟨94 :: (l ++ [94])⟩⟩ : ByteArray).size := by rw [mk_size]; simp; omega
    rw [e, kindA_br _ (by simp)]
    unfold kindM
    rw [k1, k2, k3, k4, k5, if_neg (by decide), if_neg (by decide), if_neg (by decide), if_neg (by decide), if_neg (by decide), if_neg k6, if_pos ⟨k7, k8, k9⟩, mk_extract, mk_size]
    simp
  · obtain ⟨hg, h1, h2⟩ := wordT_mk (atom_word h (.inr (.inr (.inr (.inr rfl)))))
    have e : fmtA 5 ⟨⟨l⟩⟩ = ⟨⟨123 :: ((38 :: l) ++ [125])⟩⟩ := by
      show (⟨⟨[123, 38]⟩⟩ ++ ⟨⟨l⟩⟩ ++ ⟨⟨[125]⟩⟩ : ByteArray) = _
      rw [mk_append, mk_append]; rfl
    obtain ⟨k1, k2, k3, k4, k5⟩ := kindM_head 38 l (.inr rfl)
    have k6 : byteAt ⟨⟨38 :: l⟩⟩ 0 = 38 := by rw [byteAt_mk]; rfl
    rw [e, kindA_br _ (by simp)]
    unfold kindM
    rw [k1, k2, k3, k4, k5, if_neg (by decide), if_neg (by decide), if_neg (by decide), if_neg (by decide), if_neg (by decide), if_pos k6, mk_extract, mk_size]
    simp
  · rw [atomOk_six] at h
    rcases stop_mk h with rfl | rfl | rfl <;> kernel_rfl
  · rw [atomOk_seven] at h
    rcases pause_mk h with rfl | rfl | rfl <;> kernel_rfl
  · rw [atomOk_bare h (.inl rfl)]; kernel_rfl
  · rw [atomOk_bare h (.inr (.inl rfl))]; kernel_rfl
  · rw [atomOk_bare h (.inr (.inr rfl))]; kernel_rfl

/-- an atom whose notation the text is -/
def hit (s : ByteArray) (a : Int) (x : ByteArray) : Bool := atomOk a x && ((fmtA a x).toList == s.toList)
theorem hit_iff {s : ByteArray} {a : Int} {x : ByteArray} : hit s a x = true ↔ atomOk a x = true ∧ fmtA a x = s := by
  unfold hit
  rw [Bool.and_eq_true, beq_iff_eq, ba_toList, ba_toList]
  exact ⟨fun h => ⟨h.1, ba_ext h.2⟩, fun h => ⟨h.1, by rw [h.2]⟩⟩
theorem hit_kind {s : ByteArray} {a : Int} {x : ByteArray} (h : hit s a x = true) : kindA s = (a, x) := by
  obtain ⟨h1, rfl⟩ := hit_iff.1 h
  exact kind_fmt h1
def parseOk (s : ByteArray) : Bool := hit s (kindA s).1 (kindA s).2
def parseA (s : ByteArray) : Int × ByteArray := if parseOk s = true then kindA s else (0, ⟨#[]⟩)
theorem hit_parse {s : ByteArray} {a : Int} {x : ByteArray} (h : hit s a x = true) : parseOk s = true ∧ parseA s = (a, x) := by
  have e := hit_kind h
  have h1 : parseOk s = true := by unfold parseOk; rw [e]; exact h
  exact ⟨h1, by unfold parseA; rw [if_pos h1, e]⟩
theorem parse_hit {s : ByteArray} (h : parseOk s = true) : hit s (parseA s).1 (parseA s).2 = true := by
  unfold parseA; rw [if_pos h]; exact h
theorem fmt_size {a : Int} {x : ByteArray} (h : atomOk a x = true) : 1 ≤ (fmtA a x).size ∧ (fmtA a x).size ≤ 24 := by
  have h20 := (atomOk_prt h).2
  have z1 : ∀ p q : ByteArray, (p ++ x ++ q).size = p.size + x.size + q.size := fun p q => by rw [ByteArray.size_append, ByteArray.size_append]
  rcases atomOk_cases h with rfl | rfl | rfl | rfl | rfl | rfl | rfl | rfl | rfl | rfl
  · have := (wordT_prt (atom_word h (.inl rfl))).2
    show 1 ≤ x.size ∧ x.size ≤ 24; omega
  · show 1 ≤ (_ ++ x ++ _ : ByteArray).size ∧ (_ ++ x ++ _ : ByteArray).size ≤ 24
    rw [z1, show (⟨#[123, 94]⟩ : ByteArray).size = 2 from rfl, show (⟨#[125]⟩ : ByteArray).size = 1 from rfl]; omega
  · show 1 ≤ (_ ++ x ++ _ : ByteArray).size ∧ (_ ++ x ++ _ : ByteArray).size ≤ 24
    rw [z1, show (⟨#[123]⟩ : ByteArray).size = 1 from rfl, show (⟨#[94, 125]⟩ : ByteArray).size = 2 from rfl]; omega
  · show 1 ≤ (_ ++ x ++ _ : ByteArray).size ∧ (_ ++ x ++ _ : ByteArray).size ≤ 24
    rw [z1, show (⟨#[123, 94]⟩ : ByteArray).size = 2 from rfl, show (⟨#[94, 125]⟩ : ByteArray).size = 2 from rfl]; omega
  · show 1 ≤ (_ ++ x ++ _ : ByteArray).size ∧ (_ ++ x ++ _ : ByteArray).size ≤ 24
    rw [z1, show (⟨#[123, 38]⟩ : ByteArray).size = 2 from rfl, show (⟨#[125]⟩ : ByteArray).size = 1 from rfl]; omega
  · show 1 ≤ (_ ++ x ++ _ : ByteArray).size ∧ (_ ++ x ++ _ : ByteArray).size ≤ 24
    rw [z1, show (⟨#[123]⟩ : ByteArray).size = 1 from rfl, show (⟨#[125]⟩ : ByteArray).size = 1 from rfl]; omega
  · show 1 ≤ (_ ++ x ++ _ : ByteArray).size ∧ (_ ++ x ++ _ : ByteArray).size ≤ 24
    rw [z1, show (⟨#[123]⟩ : ByteArray).size = 1 from rfl, show (⟨#[125]⟩ : ByteArray).size = 1 from rfl]; omega
  · exact ⟨show 1 ≤ 4 by decide, show 4 ≤ 24 by decide⟩
  · exact ⟨show 1 ≤ 3 by decide, show 3 ≤ 24 by decide⟩
  · exact ⟨show 1 ≤ 5 by decide, show 5 ≤ 24 by decide⟩
theorem parse_size {s : ByteArray} (h : parseOk s = true) : 1 ≤ s.size ∧ s.size ≤ 24 := by
  obtain ⟨h1, h2⟩ := hit_iff.1 (parse_hit h)
  have := fmt_size h1
  rwa [h2] at this

/-- the text without braces and signs at its ends -/
def trimW (s : ByteArray) : ByteArray := ⟨(Lib.trimS s.data.toList [123, 125, 94, 38]).toArray⟩
def inSet (c : UInt8) : Bool := [123, 125, 94, 38].contains c
theorem trim_mid (p x q : List UInt8) (hp : ∀ c ∈ p, inSet c = true) (hq : ∀ c ∈ q, inSet c = true) (hx : ∀ c ∈ x, inSet c = false) (h1 : 1 ≤ x.length) : Lib.trimS (p ++ x ++ q) [123, 125, 94, 38] = x := by
  have hd : ∀ (y : List UInt8), 1 ≤ y.length → (∀ c ∈ y, inSet c = false) → ∀ r, (y ++ r).dropWhile ([123, 125, 94, 38].contains ·) = y ++ r := by
    intro y hy hc r
    cases y with
    | nil => simp at hy
    | cons c y =>
      rw [List.cons_append, List.dropWhile_cons]
      have := hc c (by simp)
      unfold inSet at this
      rw [this]; rfl
  have hdp : ∀ (y : List UInt8), (∀ c ∈ y, inSet c = true) → ∀ r, (y ++ r).dropWhile ([123, 125, 94, 38].contains ·) = r.dropWhile ([123, 125, 94, 38].contains ·) := by
    intro y hy r
    rw [List.dropWhile_append_of_pos]
    intro c hc
    exact hy c hc
  have er : Lib.trimRightS (p ++ x ++ q) [123, 125, 94, 38] = p ++ x := by
    unfold Lib.trimRightS
    rw [List.reverse_append, hdp q.reverse (fun c hc => hq c (List.mem_reverse.1 hc)), List.reverse_append, hd x.reverse (by simpa using h1) (fun c hc => hx c (List.mem_reverse.1 hc)), List.reverse_append, List.reverse_reverse, List.reverse_reverse]
  unfold Lib.trimS
  rw [er]
  unfold Lib.trimLeftS
  rw [hdp p hp, ← List.append_nil x, hd x h1 hx, List.append_nil]
theorem trim_fmt {a : Int} {x : ByteArray} (h : atomOk a x = true) (ha : a ≤ 7) : trimW (fmtA a x) = x := by
  obtain ⟨l, rfl⟩ := ba_mk x
  have key : ∀ (p q : List UInt8), (∀ c ∈ p, inSet c = true) → (∀ c ∈ q, inSet c = true) → (∀ c ∈ l, inSet c = false) → 1 ≤ l.length → trimW (⟨⟨p⟩⟩ ++ ⟨⟨l⟩⟩ ++ ⟨⟨q⟩⟩) = ⟨⟨l⟩⟩ := by
    intro p q hp hq hl h1
    unfold trimW
    rw [mk_append, mk_append]
    show (⟨(Lib.trimS (p ++ l ++ q) _).toArray⟩ : ByteArray) = _
    rw [trim_mid p l q hp hq hl h1]
  have hw : wordT ⟨⟨l⟩⟩ = true → (∀ c ∈ l, inSet c = false) ∧ 1 ≤ l.length := by
    intro hw
    obtain ⟨hg, h1, _⟩ := wordT_mk hw
    refine ⟨fun c hc => ?_, h1⟩
    obtain ⟨g1, g2, g3, g4⟩ := good_not (hg c hc)
    simp [inSet, g1, g2, g3, g4]
  rcases atomOk_cases h with rfl | rfl | rfl | rfl | rfl | rfl | rfl | rfl | rfl | rfl
  · obtain ⟨w1, w2⟩ := hw (atom_word h (.inl rfl))
    have := key [] [] (by simp) (by simp) w1 w2
    rwa [mk_append, mk_append, List.nil_append, List.append_nil] at this
  · obtain ⟨w1, w2⟩ := hw (atom_word h (.inr (.inl rfl)))
    exact key [123, 94] [125] (by decide) (by decide) w1 w2
  · obtain ⟨w1, w2⟩ := hw (atom_word h (.inr (.inr (.inl rfl))))
    exact key [123] [94, 125] (by decide) (by decide) w1 w2
  · obtain ⟨w1, w2⟩ := hw (atom_word h (.inr (.inr (.inr (.inl rfl)))))
    exact key [123, 94] [94, 125] (by decide) (by decide) w1 w2
  · obtain ⟨w1, w2⟩ := hw (atom_word h (.inr (.inr (.inr (.inr rfl)))))
    exact key [123, 38] [125] (by decide) (by decide) w1 w2
  · rw [atomOk_six] at h
    rcases stop_mk h with e | e | e
    · rw [e]; exact (by kernel_rfl : trimW (fmtA 6 ⟨⟨[46]⟩⟩) = ⟨⟨[46]⟩⟩)
    · rw [e]; exact (by kernel_rfl : trimW (fmtA 6 ⟨⟨[33]⟩⟩) = ⟨⟨[33]⟩⟩)
    · rw [e]; exact (by kernel_rfl : trimW (fmtA 6 ⟨⟨[63]⟩⟩) = ⟨⟨[63]⟩⟩)
  · rw [atomOk_seven] at h
    rcases pause_mk h with e | e | e
    · rw [e]; exact (by kernel_rfl : trimW (fmtA 7 ⟨⟨[44]⟩⟩) = ⟨⟨[44]⟩⟩)
    · rw [e]; exact (by kernel_rfl : trimW (fmtA 7 ⟨⟨[59]⟩⟩) = ⟨⟨[59]⟩⟩)
    · rw [e]; exact (by kernel_rfl : trimW (fmtA 7 ⟨⟨[58]⟩⟩) = ⟨⟨[58]⟩⟩)
  · omega
  · omega
  · omega
/-- where the program tries in vain there is no such atom -/
theorem parse_no {s : ByteArray} (h : ∀ k : Nat, 1 ≤ k → k ≤ 10 → hit s k (trimW s) = false ∧ hit s k ⟨#[]⟩ = false) : parseOk s = false := by
  cases hp : parseOk s
  · rfl
  · have hh := parse_hit hp
    obtain ⟨h1, h2⟩ := hit_iff.1 hh
    generalize (parseA s).1 = a at hh h1 h2
    generalize (parseA s).2 = x at hh h1 h2
    have ha : 1 ≤ a ∧ a ≤ 10 := by rcases atomOk_cases h1 with rfl | rfl | rfl | rfl | rfl | rfl | rfl | rfl | rfl | rfl <;> decide
    obtain ⟨k, rfl⟩ : ∃ k : Nat, a = k := ⟨a.toNat, by omega⟩
    have hk := h k (by omega) (by omega)
    by_cases h7 : k ≤ 7
    · have := trim_fmt h1 (by omega)
      rw [h2] at this
      rw [this, hh] at hk; cases hk.1
    · have : x = ⟨#[]⟩ := atomOk_bare h1 (by omega)
      rw [this] at hh
      rw [hh] at hk; cases hk.2
theorem parse_long {s : ByteArray} (h : 24 < s.size) : parseOk s = false := by
  cases hp : parseOk s
  · rfl
  · have := parse_size hp; omega

end Go.Proofs.Ytibchndfndgdeaa.Pl
