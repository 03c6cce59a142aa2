/-
  PLAIN: atoms and states of the output, with no program in sight.
-/
import Derived.Test.YtibchndfndgdeaaPlainJoin
import Derived.Test.YtibchndfndgdeaaPlainEdit
namespace Go.Proofs.Ytibchndfndgdeaa.Pl
open Go.RowKit

/-- a state of the output -/
structure Sta where
  t : ByteArray
  j : Bool
  g : Bool
  c : Int
  k : Int

def nil : Sta := ⟨⟨#[]⟩, false, false, 0, 0⟩
def sOk (s : Sta) : Bool := validState s.t s.c s.k

def badB (c : Int) : Bool := c == 123 || c == 125 || c == 94 || c == 38 || c == 35 || c == 62
def goodB (c : Int) : Bool := decide (33 ≤ c) && decide (c ≤ 126) && !badB c
def allGood (l : List UInt8) : Bool := l.all fun c => goodB c.toNat
def wordT (x : ByteArray) : Bool := allGood x.data.toList && inB x.size 1 20
def isStop (x : ByteArray) : Bool := x.toList == [46] || x.toList == [33] || x.toList == [63]
def isPause (x : ByteArray) : Bool := x.toList == [44] || x.toList == [59] || x.toList == [58]
def atomOk (a : Int) (x : ByteArray) : Bool :=
  if a = 1 ∨ a = 2 ∨ a = 3 ∨ a = 4 ∨ a = 5 then wordT x
  else if a = 6 then isStop x
  else if a = 7 then isPause x
  else inB a 8 10 && x.toList.isEmpty

def upB (c : UInt8) : UInt8 := if 97 ≤ c.toNat ∧ c.toNat ≤ 122 then c - 32 else c
def lowB (c : UInt8) : UInt8 := if 65 ≤ c.toNat ∧ c.toNat ≤ 90 then c + 32 else c
def onHead (f : UInt8 → UInt8) : List UInt8 → List UInt8
  | [] => []
  | c :: r => f c :: r
def up (x : ByteArray) : ByteArray := ⟨⟨onHead upB x.data.toList⟩⟩
def low (x : ByteArray) : ByteArray := ⟨⟨onHead lowB x.data.toList⟩⟩
def caseB (how : Int) (x : ByteArray) : ByteArray := if how = 1 then up x else if how = 2 then low x else x

theorem onHead_split (f : UInt8 → UInt8) (x : ByteArray) (h : 0 < x.size) : (⟨⟨onHead f x.data.toList⟩⟩ : ByteArray) = ⟨#[f x[0]]⟩ ++ x.extract 1 x.size := by
  apply ByteArray.ext
  apply Array.toList_inj.1
  rw [ba_append, ba_extract]
  cases x with | mk d => cases d with | mk l => cases l with
    | nil => exact absurd h (by decide)
    | cons c r =>
      have e : (⟨⟨c :: r⟩⟩ : ByteArray).size = r.length + 1 := rfl
      rw [e]
      show f c :: r = [f c] ++ (r.take (r.length + 1 - 1))
      simp
theorem size_none {x : ByteArray} (h : x.size = 0) : x = ⟨#[]⟩ := by
  cases x with | mk d => cases d with | mk l => cases l with
    | nil => rfl
    | cons c r => exact absurd h (by show ¬ r.length + 1 = 0; omega)
theorem some_list {x : ByteArray} (h : 0 < x.size) : x.toList.isEmpty = false := by
  rw [ba_toList]
  cases x with | mk d => cases d with | mk l => cases l with
    | nil => exact absurd h (by decide)
    | cons c r => rfl
theorem onHead_none (f : UInt8 → UInt8) {x : ByteArray} (h : x.size = 0) : (⟨⟨onHead f x.data.toList⟩⟩ : ByteArray) = x := by
  cases x with | mk d => cases d with | mk l => cases l with
    | nil => rfl
    | cons c r => exact absurd h (by show ¬ r.length + 1 = 0; omega)
theorem onHead_same (f : UInt8 → UInt8) {x : ByteArray} (h : 0 < x.size) (hf : f x[0] = x[0]) : (⟨⟨onHead f x.data.toList⟩⟩ : ByteArray) = x := by
  cases x with | mk d => cases d with | mk l => cases l with
    | nil => exact absurd h (by decide)
    | cons c r =>
      have hc : f c = c := hf
      show (⟨⟨f c :: r⟩⟩ : ByteArray) = _
      rw [hc]
theorem up_none {x : ByteArray} (h : x.size = 0) : up x = x := onHead_none upB h
theorem low_none {x : ByteArray} (h : x.size = 0) : low x = x := onHead_none lowB h
theorem up_yes {x : ByteArray} (h : 0 < x.size) (h1 : 97 ≤ x[0].toNat) (h2 : x[0].toNat ≤ 122) : up x = ⟨#[x[0] - 32]⟩ ++ x.extract 1 x.size := by
  rw [up, onHead_split upB x h, upB, if_pos ⟨h1, h2⟩]
theorem low_yes {x : ByteArray} (h : 0 < x.size) (h1 : 65 ≤ x[0].toNat) (h2 : x[0].toNat ≤ 90) : low x = ⟨#[x[0] + 32]⟩ ++ x.extract 1 x.size := by
  rw [low, onHead_split lowB x h, lowB, if_pos ⟨h1, h2⟩]
theorem up_no {x : ByteArray} (h : 0 < x.size) (h1 : ¬ (97 ≤ x[0].toNat ∧ x[0].toNat ≤ 122)) : up x = x := onHead_same upB h (by rw [upB, if_neg h1])
theorem low_no {x : ByteArray} (h : 0 < x.size) (h1 : ¬ (65 ≤ x[0].toNat ∧ x[0].toNat ≤ 90)) : low x = x := onHead_same lowB h (by rw [lowB, if_neg h1])
theorem same_split {x : ByteArray} (h : 0 < x.size) : x = ⟨#[x[0]]⟩ ++ x.extract 1 x.size := by
  have h1 := onHead_split (fun c => c) x h
  have h2 := onHead_same (fun c => c) h rfl
  exact h2.symm.trans h1

theorem onHead_length (f : UInt8 → UInt8) (l : List UInt8) : (onHead f l).length = l.length := by cases l <;> rfl
theorem up_size (x : ByteArray) : (up x).size = x.size := by
  have := onHead_length upB x.data.toList
  show (onHead upB x.data.toList).toArray.size = x.data.size
  simpa using this
theorem low_size (x : ByteArray) : (low x).size = x.size := by
  have := onHead_length lowB x.data.toList
  show (onHead lowB x.data.toList).toArray.size = x.data.size
  simpa using this
theorem caseB_size (h : Int) (x : ByteArray) : (caseB h x).size = x.size := by
  unfold caseB; repeat' split
  · exact up_size x
  · exact low_size x
  · rfl
theorem upB_in {c : UInt8} (h1 : 32 ≤ c.toNat) (h2 : c.toNat ≤ 126) : 32 ≤ (upB c).toNat ∧ (upB c).toNat ≤ 126 := by
  unfold upB; split
  · rename_i h
    have : (c - 32).toNat = c.toNat - 32 := by
      rw [UInt8.toNat_sub_of_le]; rfl
      show (32 : UInt8).toNat ≤ c.toNat; simpa using h1
    omega
  · exact ⟨h1, h2⟩
theorem lowB_in {c : UInt8} (h1 : 32 ≤ c.toNat) (h2 : c.toNat ≤ 126) : 32 ≤ (lowB c).toNat ∧ (lowB c).toNat ≤ 126 := by
  unfold lowB; split
  · rename_i h
    have : (c + 32).toNat = c.toNat + 32 := by
      rw [UInt8.toNat_add]
      have : (32 : UInt8).toNat = 32 := rfl
      omega
    omega
  · exact ⟨h1, h2⟩
theorem onHead_in {f : UInt8 → UInt8} (hf : ∀ c : UInt8, 32 ≤ c.toNat → c.toNat ≤ 126 → 32 ≤ (f c).toNat ∧ (f c).toNat ≤ 126) {l : List UInt8} (h : allIn 32 126 l = true) : allIn 32 126 (onHead f l) = true := by
  cases l with
  | nil => rfl
  | cons c r =>
    simp only [allIn, onHead, List.all_cons, Bool.and_eq_true, decide_eq_true_iff] at h ⊢
    exact ⟨hf c h.1.1 h.1.2, h.2⟩
def prt (x : ByteArray) : Bool := allIn 32 126 x.data.toList
theorem caseB_prt (how : Int) {x : ByteArray} (h : prt x = true) : prt (caseB how x) = true := by
  unfold caseB; repeat' split
  · exact onHead_in (fun _ a b => upB_in a b) h
  · exact onHead_in (fun _ a b => lowB_in a b) h
  · exact h
theorem allIn_app {a b : Nat} {x y : ByteArray} (h1 : allIn a b x.data.toList = true) (h2 : allIn a b y.data.toList = true) : allIn a b (x ++ y).data.toList = true := by
  rw [ba_append, allIn_append, h1, h2]; rfl
theorem allIn_ext {a b : Nat} {x : ByteArray} (i j : Nat) (h : allIn a b x.data.toList = true) : allIn a b (x.extract i j).data.toList = true := by
  simp only [allIn, List.all_eq_true] at h ⊢
  intro c hc
  refine h c ?_
  have e : (x.extract i j).data = x.data.extract i j := ByteArray.data_extract
  rw [e] at hc
  simp only [Array.toList_extract] at hc
  exact List.mem_of_mem_drop (List.mem_of_mem_take hc)
theorem allIn_wide {a b a' b' : Nat} (ha : a' ≤ a) (hb : b ≤ b') {l : List UInt8} (h : allIn a b l = true) : allIn a' b' l = true := by
  simp only [allIn, List.all_eq_true, Bool.and_eq_true, decide_eq_true_iff] at h ⊢
  intro c hc
  have := h c hc
  omega
theorem isWord_all {s : ByteArray} (h : isWord s = true) : allIn 97 122 s.data.toList = true := by
  simp only [isWord, Bool.and_eq_true] at h; exact h.1
theorem join_all {s t : ByteArray} (h1 : isWord s = true) (h2 : isWord t = true) : allIn 97 122 (join s t).data.toList = true := by
  have a1 := isWord_all h1
  have a2 := isWord_all h2
  rcases rule_cases s t with hr | hr | hr | hr | hr | hr | hr
  · rw [join0 hr]; exact allIn_app a1 a2
  · rw [join1 hr]; exact allIn_app (allIn_ext _ _ a1) (by decide)
  · rw [join2 hr]; exact allIn_app a1 (by decide)
  · rw [join3 hr]; exact allIn_app (allIn_ext _ _ a1) (by decide)
  · rw [join4 hr]; exact allIn_app (allIn_app (allIn_ext _ _ a1) (by decide)) a2
  · rw [join5 hr]; exact allIn_app (allIn_ext _ _ a1) a2
  · rw [join6 hr]; exact allIn_app (allIn_app a1 (allIn_ext _ _ a1)) a2

/-- the end of a text joined with a suffix -/
def ended (t : ByteArray) (k : Int) (x : ByteArray) : ByteArray :=
  if joinOk (t.extract k.toNat t.size) x = true then t.extract 0 k.toNat ++ joinOut (t.extract k.toNat t.size) x else t ++ x
def spaced (s : Sta) : ByteArray := if s.j = true then s.t else s.t ++ ⟨#[32]⟩
def put (s : Sta) (x : ByteArray) : Sta := ⟨spaced s ++ caseB s.c x, s.j, s.g, 0, (spaced s).size⟩
/-- the state behind an atom -/
def ap (s : Sta) (a : Int) (x : ByteArray) : Sta :=
  if a = 1 then ⟨spaced s ++ caseB s.c x, false, false, 0, (spaced s).size⟩
  else if a = 2 then ⟨ended s.t s.k x, false, false, s.c, s.k⟩
  else if a = 3 then ⟨spaced s ++ caseB s.c x, true, false, 0, (spaced s).size⟩
  else if a = 4 then ⟨s.t ++ x, true, false, s.c, s.k⟩
  else if a = 5 then (if s.g = true then ⟨s.t ++ caseB s.c x, false, true, 0, s.k⟩ else ⟨spaced s ++ caseB s.c x, false, true, 0, (spaced s).size⟩)
  else if a = 6 then ⟨s.t ++ x, false, false, 1, s.k⟩
  else if a = 7 then ⟨s.t ++ x, false, false, s.c, s.k⟩
  else if a = 8 then ⟨s.t, s.j, s.g, 1, s.k⟩
  else if a = 9 then ⟨s.t, s.j, s.g, 2, s.k⟩
  else ⟨s.t.extract 0 s.k.toNat ++ up (s.t.extract s.k.toNat s.t.size), s.j, s.g, s.c, s.k⟩

theorem wordT_prt {x : ByteArray} (h : wordT x = true) : prt x = true ∧ 1 ≤ x.size ∧ x.size ≤ 20 := by
  simp only [wordT, Bool.and_eq_true, allGood, List.all_eq_true, goodB, decide_eq_true_iff, inB] at h
  refine ⟨?_, by omega, by omega⟩
  simp only [prt, allIn, List.all_eq_true, Bool.and_eq_true, decide_eq_true_iff]
  intro c hc
  have := (h.1 c hc).1
  omega
theorem one_of {x : ByteArray} {c : UInt8} (h : x.toList = [c]) : x = ⟨#[c]⟩ := by
  have : x.data.toList = [c] := by rw [← ba_toList]; exact h
  cases x with | mk d => cases d with | mk l => simp at this; subst this; rfl
theorem stop_prt {x : ByteArray} (h : isStop x = true) : prt x = true ∧ x.size = 1 := by
  simp only [isStop, Bool.or_eq_true, beq_iff_eq] at h
  rcases h with (h | h) | h
  all_goals obtain rfl := one_of h; decide
theorem pause_prt {x : ByteArray} (h : isPause x = true) : prt x = true ∧ x.size = 1 := by
  simp only [isPause, Bool.or_eq_true, beq_iff_eq] at h
  rcases h with (h | h) | h
  all_goals obtain rfl := one_of h; decide
theorem atomOk_cases {a : Int} {x : ByteArray} (h : atomOk a x = true) : a = 1 ∨ a = 2 ∨ a = 3 ∨ a = 4 ∨ a = 5 ∨ a = 6 ∨ a = 7 ∨ a = 8 ∨ a = 9 ∨ a = 10 := by
  unfold atomOk at h
  repeat' split at h
  · omega
  · omega
  · omega
  · simp [inB] at h; omega
theorem atomOk_prt {a : Int} {x : ByteArray} (h : atomOk a x = true) : prt x = true ∧ x.size ≤ 20 := by
  unfold atomOk at h
  repeat' split at h
  · exact ⟨(wordT_prt h).1, (wordT_prt h).2.2⟩
  · have := stop_prt h; exact ⟨this.1, by omega⟩
  · have := pause_prt h; exact ⟨this.1, by omega⟩
  · simp only [Bool.and_eq_true] at h
    have e : x.toList = [] := by simpa using h.2
    have e2 : x.data.toList = [] := by rw [← ba_toList]; exact e
    refine ⟨by rw [prt, e2]; rfl, ?_⟩
    rw [ba_size, e2]; simp
theorem sOk_told {s : Sta} (h : sOk s = true) : s.t.size ≤ 2000 ∧ prt s.t = true ∧ 0 ≤ s.c ∧ s.c ≤ 2 ∧ 0 ≤ s.k ∧ s.k ≤ s.t.size := by
  simp [sOk, validState, inB] at h
  exact ⟨h.1.1.1, h.1.1.2, h.1.2.1, h.1.2.2, h.2.1, h.2.2⟩
theorem sOk_mk {s : Sta} (h1 : prt s.t = true) (h2 : 0 ≤ s.c) (h3 : s.c ≤ 2) (h4 : 0 ≤ s.k) (h5 : s.k ≤ s.t.size) : sOk s = decide (s.t.size ≤ 2000) := by
  unfold prt at h1
  simp [sOk, validState, inB, h1, h2, h3, h4, h5]
theorem prt_app {x y : ByteArray} (h1 : prt x = true) (h2 : prt y = true) : prt (x ++ y) = true := allIn_app h1 h2
theorem spaced_prt {s : Sta} (h : prt s.t = true) : prt (spaced s) = true := by
  unfold spaced; split
  · exact h
  · exact prt_app h (by decide)
theorem spaced_size (s : Sta) : s.t.size ≤ (spaced s).size ∧ (spaced s).size ≤ s.t.size + 1 := by
  unfold spaced; split
  · omega
  · rw [ByteArray.size_append]; exact ⟨by omega, Nat.le_refl _⟩
theorem ended_told {t : ByteArray} {k : Int} {x : ByteArray} (ht : prt t = true) (hx : prt x = true) (h0 : 0 ≤ k) (h1 : k ≤ t.size) : prt (ended t k x) = true ∧ k ≤ (ended t k x).size ∧ (ended t k x).size ≤ t.size + x.size + 24 := by
  unfold ended; split
  · rename_i h
    have hj : joinOut (t.extract k.toNat t.size) x = join (t.extract k.toNat t.size) x := by simp [joinOut, h]
    simp only [joinOk, Bool.and_eq_true, decide_eq_true_iff] at h
    rw [hj]
    refine ⟨prt_app (allIn_ext _ _ ht) (allIn_wide (by omega) (by omega) (join_all h.1.1 h.1.2)), ?_, ?_⟩
    all_goals rw [ByteArray.size_append, ByteArray.size_extract]; omega
  · refine ⟨prt_app ht hx, ?_, ?_⟩
    all_goals rw [ByteArray.size_append]; omega
theorem ap_told {s : Sta} {a : Int} {x : ByteArray} (hs : sOk s = true) (ha : atomOk a x = true) : sOk (ap s a x) = decide ((ap s a x).t.size ≤ 2000) ∧ (ap s a x).t.size ≤ 2100 := by
  obtain ⟨h1, h2, h3, h4, h5, h6⟩ := sOk_told hs
  obtain ⟨h7, h8⟩ := atomOk_prt ha
  have h9 := spaced_size s
  have ha := spaced_prt (s := s) h2
  have hb := caseB_prt s.c h7
  have hc := caseB_size s.c x
  obtain ⟨hd, he, hf⟩ := ended_told h2 h7 h5 h6
  unfold ap
  repeat' split
  · exact ⟨sOk_mk (prt_app ha hb) (show (0:Int) ≤ 0 by decide) (show (0:Int) ≤ 2 by decide) (by dsimp only; omega) (by dsimp only; rw [ByteArray.size_append]; omega), by dsimp only; rw [ByteArray.size_append]; omega⟩
  · exact ⟨sOk_mk hd h3 h4 h5 he, by dsimp only; omega⟩
  · exact ⟨sOk_mk (prt_app ha hb) (show (0:Int) ≤ 0 by decide) (show (0:Int) ≤ 2 by decide) (by dsimp only; omega) (by dsimp only; rw [ByteArray.size_append]; omega), by dsimp only; rw [ByteArray.size_append]; omega⟩
  · exact ⟨sOk_mk (prt_app h2 h7) h3 h4 h5 (by dsimp only; rw [ByteArray.size_append]; omega), by dsimp only; rw [ByteArray.size_append]; omega⟩
  · exact ⟨sOk_mk (prt_app h2 hb) (show (0:Int) ≤ 0 by decide) (show (0:Int) ≤ 2 by decide) h5 (by dsimp only; rw [ByteArray.size_append]; omega), by dsimp only; rw [ByteArray.size_append]; omega⟩
  · exact ⟨sOk_mk (prt_app ha hb) (show (0:Int) ≤ 0 by decide) (show (0:Int) ≤ 2 by decide) (by dsimp only; omega) (by dsimp only; rw [ByteArray.size_append]; omega), by dsimp only; rw [ByteArray.size_append]; omega⟩
  · exact ⟨sOk_mk (prt_app h2 h7) (show (0:Int) ≤ 1 by decide) (show (1:Int) ≤ 2 by decide) h5 (by dsimp only; rw [ByteArray.size_append]; omega), by dsimp only; rw [ByteArray.size_append]; omega⟩
  · exact ⟨sOk_mk (prt_app h2 h7) h3 h4 h5 (by dsimp only; rw [ByteArray.size_append]; omega), by dsimp only; rw [ByteArray.size_append]; omega⟩
  · exact ⟨sOk_mk h2 (show (0:Int) ≤ 1 by decide) (show (1:Int) ≤ 2 by decide) h5 h6, by dsimp only; omega⟩
  · exact ⟨sOk_mk h2 (show (0:Int) ≤ 2 by decide) (show (2:Int) ≤ 2 by decide) h5 h6, by dsimp only; omega⟩
  · have hz := up_size (s.t.extract s.k.toNat s.t.size)
    rw [ByteArray.size_extract] at hz
    refine ⟨sOk_mk (prt_app (allIn_ext _ _ h2) (onHead_in (fun _ a b => upB_in a b) (allIn_ext _ _ h2))) h3 h4 h5 ?_, ?_⟩
    · dsimp only; rw [ByteArray.size_append, ByteArray.size_extract]; omega
    · dsimp only; rw [ByteArray.size_append, ByteArray.size_extract]; omega

def apOk (s : Sta) (a : Int) (x : ByteArray) : Bool := sOk s && atomOk a x && decide ((ap s a x).t.size ≤ 2000)
def apOut (s : Sta) (a : Int) (x : ByteArray) : Sta := if apOk s a x = true then ap s a x else nil
theorem ap_yes {s r : Sta} {a : Int} {x : ByteArray} (h1 : sOk s = true) (h2 : atomOk a x = true) (hr : ap s a x = r) (hz : r.t.size ≤ 2000) : apOut s a x = r ∧ apOk s a x = true := by
  have h : apOk s a x = true := by simp [apOk, h1, h2, hr, hz]
  exact ⟨by simp [apOut, h, hr], h⟩
theorem ap_no {s r : Sta} {a : Int} {x : ByteArray} (hr : ap s a x = r) (hz : ¬ r.t.size ≤ 2000) : apOut s a x = nil ∧ apOk s a x = false := by
  have h : apOk s a x = false := by simp only [apOk, hr, decide_eq_false hz, Bool.and_false]
  exact ⟨by simp [apOut, h], h⟩
theorem ap_bad {s : Sta} {a : Int} {x : ByteArray} (h : (sOk s && atomOk a x) = false) : apOut s a x = nil ∧ apOk s a x = false := by
  have h : apOk s a x = false := by simp only [apOk, h, Bool.false_and]
  exact ⟨by simp [apOut, h], h⟩
theorem apOut_ok {s : Sta} {a : Int} {x : ByteArray} (h : apOk s a x = true) : sOk (apOut s a x) = true := by
  have h0 := h
  simp only [apOk, Bool.and_eq_true, decide_eq_true_iff] at h
  rw [apOut, if_pos h0, (ap_told h.1.1 h.1.2).1, decide_eq_true_iff]
  exact h.2

/-- many atoms -/
def run : Sta → List (Int × ByteArray) → Option Sta
  | s, [] => some s
  | s, a :: r => if apOk s a.1 a.2 = true then run (ap s a.1 a.2) r else none
def runOk (s : Sta) (l : List (Int × ByteArray)) : Bool := sOk s && decide (l.length ≤ 600) && (run s l).isSome
def runOut (s : Sta) (l : List (Int × ByteArray)) : Sta := if runOk s l = true then (run s l).getD nil else nil
theorem run_append (s : Sta) (l m : List (Int × ByteArray)) : run s (l ++ m) = (run s l).bind fun u => run u m := by
  induction l generalizing s with
  | nil => rfl
  | cons a r ih =>
    rw [List.cons_append, run, run]
    split
    · exact ih _
    · rfl
theorem run_ok {s u : Sta} {l : List (Int × ByteArray)} (hs : sOk s = true) (h : run s l = some u) : sOk u = true := by
  induction l generalizing s with
  | nil => simp only [run, Option.some.injEq] at h; exact h ▸ hs
  | cons a r ih =>
    rw [run] at h
    split at h
    · rename_i ha
      refine ih ?_ h
      have := apOut_ok ha
      rwa [apOut, if_pos ha] at this
    · cases h

end Go.Proofs.Ytibchndfndgdeaa.Pl
