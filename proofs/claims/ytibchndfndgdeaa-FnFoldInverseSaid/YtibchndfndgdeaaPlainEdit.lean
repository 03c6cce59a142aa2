/-
  PLAIN LAWS on screens and edits. No program is in sight here.
-/
import Derived.Test.YtibchndfndgdeaaPlainNum
namespace Go.Proofs.Ytibchndfndgdeaa.Pl
open Go.RowKit

/-- how many bytes two texts have in common at their heads -/
def cpl : List UInt8 → List UInt8 → Nat
  | x :: a, y :: b => if x = y then cpl a b + 1 else 0
  | _, _ => 0
theorem cpl_le_left (a b : List UInt8) : cpl a b ≤ a.length := by
  induction a generalizing b with
  | nil => simp [cpl]
  | cons x a ih =>
    cases b with
    | nil => simp [cpl]
    | cons y b => unfold cpl; split <;> simp; exact ih b
theorem cpl_le_right (a b : List UInt8) : cpl a b ≤ b.length := by
  induction a generalizing b with
  | nil => simp [cpl]
  | cons x a ih =>
    cases b with
    | nil => simp [cpl]
    | cons y b => unfold cpl; split <;> simp; exact ih b

def cplAt (s t : ByteArray) (k : Nat) : Prop := cpl (s.data.toList.drop k) (t.data.toList.drop k) + k = cpl s.data.toList t.data.toList
theorem cplAt_zero (s t : ByteArray) : cplAt s t 0 := by simp [cplAt]
theorem drop_byte (s : ByteArray) (k : Nat) (h : k < s.size) : ∃ c : UInt8, (c.toNat : Int) = byteAt s k ∧ s.data.toList.drop k = c :: s.data.toList.drop (k + 1) := by
  have h' : k < s.data.toList.length := by simpa using h
  exact ⟨s.data.toList[k]'h', by rw [← byteAt_eq s k h]; rfl, List.drop_eq_getElem_cons h'⟩
theorem cplAt_succ {s t : ByteArray} {k : Nat} (hs : k < s.size) (ht : k < t.size) (he : byteAt s k = byteAt t k) (h : cplAt s t k) : cplAt s t (k + 1) := by
  obtain ⟨c, h1, h2⟩ := drop_byte s k hs
  obtain ⟨d, h3, h4⟩ := drop_byte t k ht
  have hcd : c = d := UInt8.toNat.inj (by omega)
  unfold cplAt at h ⊢
  rw [h2, h4, hcd, cpl, if_pos rfl] at h
  omega
theorem cplAt_ne {s t : ByteArray} {k : Nat} (hs : k < s.size) (ht : k < t.size) (he : ¬ byteAt s k = byteAt t k) (h : cplAt s t k) : cpl s.data.toList t.data.toList = k := by
  obtain ⟨c, h1, h2⟩ := drop_byte s k hs
  obtain ⟨d, h3, h4⟩ := drop_byte t k ht
  unfold cplAt at h
  rw [h2, h4, cpl, if_neg (by intro e; subst e; omega)] at h
  omega
theorem cplAt_left {s t : ByteArray} {k : Nat} (hs : s.size ≤ k) (h : cplAt s t k) : cpl s.data.toList t.data.toList = k := by
  have := ba_size s
  unfold cplAt at h
  rw [List.drop_eq_nil_of_le (by omega)] at h
  simpa [cpl] using h.symm
theorem cplAt_right {s t : ByteArray} {k : Nat} (ht : t.size ≤ k) (h : cplAt s t k) : cpl s.data.toList t.data.toList = k := by
  have := ba_size t
  unfold cplAt at h
  rw [List.drop_eq_nil_of_le (as := t.data.toList) (by omega)] at h
  cases hd : s.data.toList.drop k with
  | nil => rw [hd] at h; simpa [cpl] using h.symm
  | cons x r => rw [hd] at h; simpa [cpl] using h.symm

def comm (s t : ByteArray) : Nat := cpl s.data.toList t.data.toList
theorem comm_le (s t : ByteArray) : comm s t ≤ s.size ∧ comm s t ≤ t.size :=
  ⟨by rw [ba_size]; exact cpl_le_left _ _, by rw [ba_size]; exact cpl_le_right _ _⟩
def leastBack (s t : ByteArray) : Int := (s.size : Int) - comm s t
def leastText (s t : ByteArray) : ByteArray := t.extract (comm s t) t.size
def leastOk (s t : ByteArray) : Bool := isScreen s && isScreen t
def leastBackOut (s t : ByteArray) : Int := if leastOk s t = true then leastBack s t else 0
def leastTextOut (s t : ByteArray) : ByteArray := if leastOk s t = true then leastText s t else ⟨#[]⟩

/-- a screen behind an edit -/
def applied (s : ByteArray) (b : Int) (t : ByteArray) : ByteArray := s.extract 0 (s.size - b.toNat) ++ t
def applyOk (s : ByteArray) (b : Int) (t : ByteArray) : Bool := isScreen s && validEdit b t && decide (b ≤ s.size) && decide ((applied s b t).size ≤ 2000)
def applyOut (s : ByteArray) (b : Int) (t : ByteArray) : ByteArray := if applyOk s b t = true then applied s b t else ⟨#[]⟩
theorem allIn_append (a b : Nat) (x y : List UInt8) : allIn a b (x ++ y) = (allIn a b x && allIn a b y) := by simp [allIn]
theorem allIn_take {a b : Nat} {x : List UInt8} (n : Nat) (h : allIn a b x = true) : allIn a b (x.take n) = true := by
  simp only [allIn, List.all_eq_true] at h ⊢
  exact fun c hc => h c (List.mem_of_mem_take hc)
theorem allIn_drop {a b : Nat} {x : List UInt8} (n : Nat) (h : allIn a b x = true) : allIn a b (x.drop n) = true := by
  simp only [allIn, List.all_eq_true] at h ⊢
  exact fun c hc => h c (List.mem_of_mem_drop hc)
theorem isScreen_all {s : ByteArray} (h : isScreen s = true) : allIn 32 126 s.data.toList = true := by simp [isScreen] at h; exact h.2
theorem isScreen_size {s : ByteArray} (h : isScreen s = true) : s.size ≤ 2000 := by simp [isScreen] at h; exact h.1
theorem validEdit_screen {b : Int} {t : ByteArray} (h : validEdit b t = true) : isScreen t = true := by simp [validEdit] at h; exact h.2
theorem validEdit_bd {b : Int} {t : ByteArray} (h : validEdit b t = true) : 0 ≤ b ∧ b ≤ 2000 := by simp [validEdit, inB] at h; exact h.1
theorem applied_screen {s : ByteArray} {b : Int} {t : ByteArray} (hs : isScreen s = true) (ht : isScreen t = true) : isScreen (applied s b t) = decide ((applied s b t).size ≤ 2000) := by
  have h1 := isScreen_all hs
  have h2 := isScreen_all ht
  unfold isScreen
  have : allIn 32 126 (applied s b t).data.toList = true := by
    unfold applied
    rw [ba_append, ba_extract, allIn_append, h2, allIn_take _ (by simpa using h1)]; rfl
  rw [this, Bool.and_true]
theorem applied_size {s : ByteArray} {b : Int} {t : ByteArray} (h0 : 0 ≤ b) (h1 : b ≤ s.size) : ((applied s b t).size : Int) = s.size - b + t.size := by
  unfold applied
  rw [ByteArray.size_append, ByteArray.size_extract]
  omega

/-- two edits as one -/
def compBack (b1 : Int) (t1 : ByteArray) (b2 : Int) : Int := if b2 ≤ t1.size then b1 else b1 + (b2 - t1.size)
def compText (t1 : ByteArray) (b2 : Int) (t2 : ByteArray) : ByteArray := if b2 ≤ t1.size then t1.extract 0 (t1.size - b2.toNat) ++ t2 else t2
def compOk (b1 : Int) (t1 : ByteArray) (b2 : Int) (t2 : ByteArray) : Bool := validEdit b1 t1 && validEdit b2 t2 && validEdit (compBack b1 t1 b2) (compText t1 b2 t2)
def compBackOut (b1 : Int) (t1 : ByteArray) (b2 : Int) (t2 : ByteArray) : Int := if compOk b1 t1 b2 t2 = true then compBack b1 t1 b2 else 0
def compTextOut (b1 : Int) (t1 : ByteArray) (b2 : Int) (t2 : ByteArray) : ByteArray := if compOk b1 t1 b2 t2 = true then compText t1 b2 t2 else ⟨#[]⟩
theorem compText_size {t1 : ByteArray} {b2 : Int} {t2 : ByteArray} (h1 : t1.size ≤ 2000) (h2 : t2.size ≤ 2000) : (compText t1 b2 t2).size ≤ 4000 := by
  unfold compText
  split
  · rw [ByteArray.size_append, ByteArray.size_extract]; omega
  · omega

/-- the edit that takes another one back -/
def invBack (t : ByteArray) : Int := t.size
def invText (s : ByteArray) (b : Int) : ByteArray := s.extract (s.size - b.toNat) s.size
def invBackOut (s : ByteArray) (b : Int) (t : ByteArray) : Int := if applyOk s b t = true then invBack t else 0
def invTextOut (s : ByteArray) (b : Int) (t : ByteArray) : ByteArray := if applyOk s b t = true then invText s b else ⟨#[]⟩
theorem applyOk_bd {s : ByteArray} {b : Int} {t : ByteArray} (h : applyOk s b t = true) : 0 ≤ b ∧ b ≤ s.size ∧ t.size ≤ 2000 ∧ s.size ≤ 2000 := by
  simp only [applyOk, Bool.and_eq_true, decide_eq_true_iff] at h
  exact ⟨(validEdit_bd h.1.1.2).1, h.1.2, isScreen_size (validEdit_screen h.1.1.2), isScreen_size h.1.1.1⟩

end Go.Proofs.Ytibchndfndgdeaa.Pl
