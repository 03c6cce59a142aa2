/-
  PLAIN: the word that stands for an untranslated stroke.
-/
import Derived.Test.YtdidgaibgkdjoaaGreatDoorPlainFmt
import Derived.Test.YtdidgaibgkdjoaaGreatDoorBasA
import Derived.Lib.Replace
namespace Go.Proofs.YtdidgaibgkdjoaaGreatDoor.Pl
open Go.RowKit

def eqs (c : UInt8) : UInt8 := if c = 35 then 61 else c
/-- every '#' turned to '=' -/
def rawB (n : Nat) : ByteArray := ⟨⟨(fmtB n).data.toList.map eqs⟩⟩
theorem rawB_len (n : Nat) : (rawB n).size ≤ 24 := by
  have := fmtB_len n
  show ((fmtB n).data.toList.map eqs).length ≤ 24
  rw [List.length_map]
  exact this
theorem map_id {l : List UInt8} (h : (35 : UInt8) ∉ l) : l.map eqs = l := by
  induction l with
  | nil => rfl
  | cons c r ih =>
    rw [List.mem_cons, not_or] at h
    rw [List.map_cons, ih h.2]
    unfold eqs
    rw [if_neg (fun e => h.1 e.symm)]
theorem replace_map : ∀ (n : Nat) (l : List UInt8), Lib.count l [35] = n → Lib.replaceK [35] [61] n l = l.map eqs
  | 0, l, hn => by
    have hno : Lib.index l [35] = -1 := by
      rcases Lib.index_spec l [35] with ⟨h, _⟩ | ⟨i, h, _⟩
      · exact h
      · rw [Lib.count_hit (by simp) h] at hn; omega
    have hb : (35 : UInt8) ∉ l := by
      intro hm
      obtain ⟨k, hk, e⟩ := List.mem_iff_getElem.1 hm
      rw [Lib.index_one] at hno
      exact Lib.indexByte_none hno k (by rw [List.getElem?_eq_getElem hk, e])
    rw [Lib.replaceK, map_id hb]
  | n + 1, l, hn => by
    rcases Lib.index_spec l [35] with ⟨h, _⟩ | ⟨i, h, _⟩
    · rw [Lib.count_miss h] at hn; omega
    · rw [Lib.count_hit (by simp) h] at hn
      have h' := h
      rw [Lib.index_one] at h'
      obtain ⟨h1, h2⟩ := Lib.indexByte_some h'
      have hl1 : ([35] : List UInt8).length = 1 := rfl
      rw [hl1] at hn
      rw [Lib.replaceK_hit _ _ _ _ i h, hl1, replace_map n _ (by omega)]
      conv => rhs; rw [split_at 35 l i h1]
      rw [List.map_append, List.map_cons, map_id (not_mem_take h2), List.append_assoc]
      rfl
theorem raw_replace (n : Nat) : (⟨(Lib.replaceAll (fmtB n).data.toList [35] [61]).toArray⟩ : ByteArray) = rawB n := by
  have h : Lib.replaceAll (fmtB n).data.toList [35] [61] = (fmtB n).data.toList.map eqs := by
    unfold Lib.replaceAll Lib.replace Lib.replaceNum
    rw [if_neg (by decide), if_pos (.inl (by decide))]
    exact replace_map _ _ rfl
  rw [h]
  rfl
/-- the reference's way: the head alone -/
theorem lab_not {k : Nat} (h : 1 ≤ k) (h2 : k < 23) : lab k ≠ 35 := by
  have : ∀ j : Fin 23, 1 ≤ j.val → lab j.val ≠ 35 := by decide
  exact this ⟨k, h2⟩ h
theorem no35 : ∀ (l : List Nat) (m : Bool), (∀ k ∈ l, 1 ≤ k ∧ k < 23) → (35 : UInt8) ∉ fmtK m l
  | [], _, _ => by unfold fmtK; exact List.not_mem_nil
  | k :: r, m, h => by
    have hk := h k List.mem_cons_self
    have hr := fun x hx => h x (List.mem_cons_of_mem _ hx)
    unfold fmtK
    split
    · rw [List.mem_cons, List.mem_cons, not_or, not_or]
      exact ⟨by decide, fun e => lab_not hk.1 hk.2 e.symm, no35 r true hr⟩
    · rw [List.mem_cons, not_or]
      exact ⟨fun e => lab_not hk.1 hk.2 e.symm, no35 r m hr⟩
theorem fmt_head (n : Nat) (h1 : 1 ≤ n) (h2 : n < 8388608) : ∃ c r, (fmtB n).data.toList = c :: r ∧ (35 : UInt8) ∉ r := by
  show ∃ c r, fmtK ((keysTo' n 23).any isMid) (keysTo' n 23) = c :: r ∧ (35 : UInt8) ∉ r
  have hs := keys_sorted n 23
  have hlt : ∀ k ∈ keysTo' n 23, k < 23 := fun k hk => (keysTo_lt hk).1
  have hne : keysTo' n 23 ≠ [] := by
    intro he
    have : n = 0 := by
      apply Nat.eq_of_testBit_eq
      intro i
      rw [Nat.zero_testBit]
      rcases Nat.lt_or_ge i 23 with hi | hi
      · cases hb : n.testBit i with
        | false => rfl
        | true =>
          have : i ∈ keysTo' n 23 := by unfold keysTo'; rw [List.mem_filter, List.mem_range]; exact ⟨hi, hb⟩
          rw [he] at this
          exact absurd this List.not_mem_nil
      · exact Nat.testBit_lt_two_pow (Nat.lt_of_lt_of_le h2 (Nat.pow_le_pow_right (by decide) hi : 2 ^ 23 ≤ 2 ^ i))
    omega
  generalize keysTo' n 23 = l at hs hlt hne ⊢
  generalize l.any isMid = m
  cases l with
  | nil => exact absurd rfl hne
  | cons k r =>
    rw [List.pairwise_cons] at hs
    have hr : ∀ x ∈ r, 1 ≤ x ∧ x < 23 := fun x hx => ⟨by have := hs.1 x hx; omega, hlt x (List.mem_cons_of_mem _ hx)⟩
    unfold fmtK
    split
    · rename_i h
      refine ⟨45, _, rfl, ?_⟩
      rw [List.mem_cons, not_or]
      exact ⟨fun e => lab_not (by omega) (hlt k List.mem_cons_self) e.symm, no35 r true hr⟩
    · exact ⟨lab k, _, rfl, no35 r m hr⟩
theorem raw_head {n : Nat} {c : UInt8} {r : List UInt8} (h : (fmtB n).data.toList = c :: r) (hr : (35 : UInt8) ∉ r) : rawB n = if c = 35 then ⟨#[61]⟩ ++ ⟨⟨r⟩⟩ else fmtB n := by
  unfold rawB
  rw [h, List.map_cons, map_id hr]
  unfold eqs
  split
  · rename_i hc
    exact (mk_append' [61] r).symm
  · apply ba_ext
    exact h.symm
where mk_append' (l m : List UInt8) : (⟨⟨l⟩⟩ ++ ⟨⟨m⟩⟩ : ByteArray) = ⟨⟨l ++ m⟩⟩ := ba_ext (by rw [ba_append])

end Go.Proofs.YtdidgaibgkdjoaaGreatDoor.Pl
