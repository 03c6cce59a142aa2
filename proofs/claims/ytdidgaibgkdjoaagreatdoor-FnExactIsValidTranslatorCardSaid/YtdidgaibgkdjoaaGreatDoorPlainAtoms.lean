/-
  PLAIN: the state behind an atom, behind a list of atoms, and the text of atoms. No program is in sight.
-/
import Derived.Test.YtdidgaibgkdjoaaGreatDoorBasA
namespace Go.Proofs.YtdidgaibgkdjoaaGreatDoor
namespace Pl

theorem ap_bad1 {s : Sta} {a : Int} {x : ByteArray} (h : sOk s = false) : apOk s a x = false ∧ apOut s a x = nil := by
  have h : apOk s a x = false := by unfold apOk; rw [h]; rfl
  exact ⟨h, by unfold apOut; rw [h]; rfl⟩
theorem ap_bad2 {s : Sta} {a : Int} {x : ByteArray} (h : atomOk a x = false) : apOk s a x = false ∧ apOut s a x = nil := by
  have h : apOk s a x = false := by unfold apOk; rw [h, Bool.and_false]; rfl
  exact ⟨h, by unfold apOut; rw [h]; rfl⟩
theorem ap_bad3 {s : Sta} {a : Int} {x : ByteArray} (h : ¬ (ap s a x).t.size ≤ 2000) : apOk s a x = false ∧ apOut s a x = nil := by
  have h : apOk s a x = false := by unfold apOk; rw [decide_eq_false h, Bool.and_false]
  exact ⟨h, by unfold apOut; rw [h]; rfl⟩
theorem ap_good {s : Sta} {a : Int} {x : ByteArray} (h1 : sOk s = true) (h2 : atomOk a x = true) (h : (ap s a x).t.size ≤ 2000) : apOk s a x = true ∧ apOut s a x = ap s a x := by
  have h : apOk s a x = true := by unfold apOk; rw [h1, h2, decide_eq_true h]; rfl
  exact ⟨h, by unfold apOut; rw [if_pos h]⟩
theorem apOk_told {s : Sta} {a : Int} {x : ByteArray} (h : apOk s a x = true) : sOk s = true ∧ atomOk a x = true ∧ (ap s a x).t.size ≤ 2000 ∧ apOut s a x = ap s a x ∧ sOk (ap s a x) = true := by
  have h0 := h
  simp only [apOk, Bool.and_eq_true, decide_eq_true_iff] at h
  refine ⟨h.1.1, h.1.2, h.2, by unfold apOut; rw [if_pos h0], ?_⟩
  rw [(ap_told h.1.1 h.1.2).1, decide_eq_true h.2]
theorem sOk_size {s : Sta} (h : sOk s = true) : s.t.size ≤ 2000 := (sOk_told h).1
theorem nil_ok : sOk nil = true := by decide
theorem apOut_size (s : Sta) (a : Int) (x : ByteArray) : (apOut s a x).t.size ≤ 2000 := by
  cases h : apOk s a x
  · unfold apOut; rw [h]; exact Nat.zero_le _
  · exact sOk_size (apOut_ok h)

/-- the state behind a list of atoms, if there is one -/
def aps : Sta → List (Int × ByteArray) → Option Sta
  | s, [] => some s
  | s, p :: l => if apOk s p.1 p.2 = true then aps (apOut s p.1 p.2) l else none
def apsOk (s : Sta) (l : List (Int × ByteArray)) : Bool := sOk s && decide (l.length ≤ 600) && (aps s l).isSome
def apsOut (s : Sta) (l : List (Int × ByteArray)) : Sta := if (sOk s && decide (l.length ≤ 600)) = true then (aps s l).getD nil else nil
theorem aps_app (s : Sta) (a b : List (Int × ByteArray)) : aps s (a ++ b) = (aps s a).bind fun t => aps t b := by
  induction a generalizing s with
  | nil => rfl
  | cons p a ih =>
    simp only [List.cons_append, aps]
    split
    · exact ih _
    · rfl
theorem aps_ok {s : Sta} {l : List (Int × ByteArray)} {t : Sta} (hs : sOk s = true) (h : aps s l = some t) : sOk t = true := by
  induction l generalizing s with
  | nil => simp [aps] at h; rw [← h]; exact hs
  | cons p l ih =>
    simp only [aps] at h
    split at h
    · rename_i hk; exact ih (apOut_ok hk) h
    · cases h
/-- the first k atoms have been applied and led to t -/
def At (s : Sta) (l : List (Int × ByteArray)) (k : Nat) (t : Sta) : Prop := aps s (l.take k) = some t
theorem At.zero (s : Sta) (l : List (Int × ByteArray)) : At s l 0 s := by simp [At, aps]
theorem At.ok {s : Sta} {l : List (Int × ByteArray)} {k : Nat} {t : Sta} (hs : sOk s = true) (h : At s l k t) : sOk t = true := aps_ok hs h
theorem At.succ {s : Sta} {l : List (Int × ByteArray)} {k : Nat} {t : Sta} (h : At s l k t) (hk : k < l.length) (ha : apOk t l[k].1 l[k].2 = true) : At s l (k + 1) (apOut t l[k].1 l[k].2) := by
  unfold At at h ⊢
  rw [List.take_succ_eq_append_getElem hk, aps_app, h]
  simp [aps, ha]
theorem At.fail {s : Sta} {l : List (Int × ByteArray)} {k : Nat} {t : Sta} (h : At s l k t) (hk : k < l.length) (ha : apOk t l[k].1 l[k].2 = false) : aps s l = none := by
  unfold At at h
  have e : l = l.take k ++ l[k] :: l.drop (k + 1) := by
    conv => lhs; rw [← List.take_append_drop k l, List.drop_eq_getElem_cons hk]
  rw [e, aps_app, h]
  simp [aps, ha]
theorem At.last {s : Sta} {l : List (Int × ByteArray)} {t : Sta} (h : At s l l.length t) : aps s l = some t := by
  unfold At at h; rwa [List.take_length] at h
theorem aps_bad {s : Sta} {l : List (Int × ByteArray)} (h : sOk s = false ∨ ¬ l.length ≤ 600) : apsOk s l = false ∧ apsOut s l = nil := by
  have e : (sOk s && decide (l.length ≤ 600)) = false := by
    rcases h with h | h
    · rw [h]; rfl
    · rw [decide_eq_false h, Bool.and_false]
  unfold apsOk apsOut
  rw [e]; exact ⟨rfl, rfl⟩
theorem aps_none {s : Sta} {l : List (Int × ByteArray)} (h : aps s l = none) : apsOk s l = false ∧ apsOut s l = nil := by
  unfold apsOk apsOut
  rw [h]
  refine ⟨by simp, ?_⟩
  split <;> rfl
theorem aps_some {s : Sta} {l : List (Int × ByteArray)} {t : Sta} (hs : sOk s = true) (hl : l.length ≤ 600) (h : aps s l = some t) : apsOk s l = true ∧ apsOut s l = t := by
  unfold apsOk apsOut
  rw [h, hs, decide_eq_true hl]
  exact ⟨rfl, rfl⟩
theorem apsOut_ok (s : Sta) (l : List (Int × ByteArray)) : sOk (apsOut s l) = true := by
  unfold apsOut
  split
  · rename_i h
    simp only [Bool.and_eq_true] at h
    cases ha : aps s l
    · exact nil_ok
    · exact aps_ok h.1 ha
  · exact nil_ok
theorem apsOut_size (s : Sta) (l : List (Int × ByteArray)) : (apsOut s l).t.size ≤ 2000 := sOk_size (apsOut_ok s l)

theorem aps_noT {s : Sta} {l : List (Int × ByteArray)} (h : apsOk s l = false) : (apsOut s l).t = ⟨#[]⟩ := by
  unfold apsOk at h
  unfold apsOut
  split
  · rename_i h1
    rw [h1] at h
    cases ha : aps s l
    · rfl
    · rw [ha] at h; cases h
  · rfl
def start : Sta := ⟨⟨#[]⟩, true, false, 0, 0⟩
def renderOk (l : List (Int × ByteArray)) : Bool := apsOk start l
def renderOut (l : List (Int × ByteArray)) : ByteArray := (apsOut start l).t

end Pl
end Go.Proofs.YtdidgaibgkdjoaaGreatDoor
