/-
  PLAIN LAWS: what joining adds, what an edit's inverse and a composed edit do. No program is in sight.
-/
import Derived.Test.YtfjdbchffhbidaaPlainJoin
import Derived.Test.YtfjdbchffhbidaaPlainEdit
namespace Go.Proofs.Ytfjdbchffhbidaa
namespace Pl

theorem toList_size {t : ByteArray} {l : List UInt8} (h : (t.toList == l) = true) : t.size = l.length := by
  have h1 : t.toList = l := by simpa using h
  rw [← h1, ba_toList, ba_size]
theorem rule_t1 {s t : ByteArray} (h : rule s t = 1) : t1 s t = true := by
  unfold rule at h
  repeat' split at h
  all_goals first | assumption | (exfalso; omega)
theorem rule_t2 {s t : ByteArray} (h : rule s t = 2) : t2 s t = true := by
  unfold rule at h
  repeat' split at h
  all_goals first | assumption | (exfalso; omega)
theorem rule_t3 {s t : ByteArray} (h : rule s t = 3) : t3 s t = true := by
  unfold rule at h
  repeat' split at h
  all_goals first | assumption | (exfalso; omega)
theorem rule_t4 {s t : ByteArray} (h : rule s t = 4) : t4 s t = true := by
  unfold rule at h
  repeat' split at h
  all_goals first | assumption | (exfalso; omega)
theorem rule_t5 {s t : ByteArray} (h : rule s t = 5) : t5 s t = true := by
  unfold rule at h
  repeat' split at h
  all_goals first | assumption | (exfalso; omega)
theorem rule_t6 {s t : ByteArray} (h : rule s t = 6) : t6 s t = true := by
  unfold rule at h
  repeat' split at h
  all_goals first | assumption | (exfalso; omega)

theorem consY_size {s : ByteArray} (h : consY s = true) : 2 ≤ s.size := by
  simp only [consY, Bool.and_eq_true, decide_eq_true_iff] at h
  exact h.1.1
/-- how many letters joining adds beyond the suffix -/
def more (s t : ByteArray) : Int := ((join s t).size : Int) - s.size - t.size
theorem more1 {s t : ByteArray} (h : rule s t = 1) : more s t = 1 := by
  have ht := rule_t1 h
  simp only [t1, Bool.and_eq_true] at ht
  have h1 := toList_size ht.1
  have h2 := consY_size ht.2
  unfold more
  rw [join1 h, ByteArray.size_append, ByteArray.size_extract]
  have e : (⟨#[105, 101, 115]⟩ : ByteArray).size = 3 := rfl
  simp only [List.length_cons, List.length_nil] at h1
  omega
theorem more2 {s t : ByteArray} (h : rule s t = 2) : more s t = 1 := by
  have ht := rule_t2 h
  simp only [t2, Bool.and_eq_true] at ht
  have h1 := toList_size ht.1
  unfold more
  rw [join2 h, ByteArray.size_append]
  have e : (⟨#[101, 115]⟩ : ByteArray).size = 2 := rfl
  simp only [List.length_cons, List.length_nil] at h1
  omega
theorem more3 {s t : ByteArray} (h : rule s t = 3) : more s t = -1 := by
  have ht := rule_t3 h
  simp only [t3, Bool.and_eq_true] at ht
  have h1 := toList_size ht.1
  have h2 := rule3_size h
  unfold more
  rw [join3 h, ByteArray.size_append, ByteArray.size_extract]
  have e : (⟨#[121, 105, 110, 103]⟩ : ByteArray).size = 4 := rfl
  simp only [List.length_cons, List.length_nil] at h1
  omega
theorem more4 {s t : ByteArray} (h : rule s t = 4) : more s t = 0 := by
  have ht := rule_t4 h
  simp only [t4, Bool.and_eq_true] at ht
  have h2 := consY_size ht.1
  unfold more
  rw [join4 h, ByteArray.size_append, ByteArray.size_append, ByteArray.size_extract]
  have e : (⟨#[105]⟩ : ByteArray).size = 1 := rfl
  omega
theorem more5 {s t : ByteArray} (h : rule s t = 5) : more s t = -1 := by
  have ht := rule_t5 h
  simp only [t5, Bool.and_eq_true, decide_eq_true_iff] at ht
  have h2 := ht.1.1.1
  unfold more
  rw [join5 h, ByteArray.size_append, ByteArray.size_extract]
  omega
theorem more6 {s t : ByteArray} (h : rule s t = 6) : more s t = 1 := by
  have ht := rule_t6 h
  simp only [t6, closedB, Bool.and_eq_true, decide_eq_true_iff] at ht
  have h2 := ht.1.2.1.1.1.1
  unfold more
  rw [join6 h, ByteArray.size_append, ByteArray.size_append, ByteArray.size_extract]
  omega

theorem join_told {s t : ByteArray} (h : joinOk s t = true) : ruleOk s t = true ∧ ruleOut s t = rule s t ∧ joinOut s t = join s t ∧ (join s t).size ≤ 24 := by
  have h2 := h
  simp only [joinOk, Bool.and_eq_true, decide_eq_true_iff] at h2
  have hk : ruleOk s t = true := by unfold ruleOk; rw [h2.1.1, h2.1.2]; rfl
  exact ⟨hk, by unfold ruleOut; unfold ruleOk at hk; rw [if_pos hk], by unfold joinOut; rw [if_pos h], h2.2⟩

/-- two equal heads -/
theorem cpl_take (a b : List UInt8) : a.take (cpl a b) = b.take (cpl a b) := by
  induction a generalizing b with
  | nil => simp [cpl]
  | cons x a ih =>
    cases b with
    | nil => simp [cpl]
    | cons y b =>
      unfold cpl
      split
      · rename_i h; subst h; rw [List.take_succ_cons, List.take_succ_cons, ih b]
      · simp
theorem cpl_same_head (x a b : List UInt8) : x.length ≤ cpl (x ++ a) (x ++ b) := by
  induction x with
  | nil => simp
  | cons c x ih =>
    rw [List.cons_append, List.cons_append, cpl, if_pos rfl]
    simp only [List.length_cons]; omega
theorem cpl_self (a : List UInt8) : cpl a a = a.length := by
  induction a with
  | nil => rfl
  | cons c a ih => rw [cpl, if_pos rfl, ih]; rfl

theorem take_rest (t : ByteArray) (k : Nat) : (t.data.toList.drop k).take (t.size - k) = t.data.toList.drop k :=
  List.take_of_length_le (by rw [List.length_drop, ← ba_size]; exact Nat.le_refl _)
theorem applied_data (s : ByteArray) (b : Int) (t : ByteArray) : (applied s b t).data.toList = s.data.toList.take (s.size - b.toNat) ++ t.data.toList := by
  unfold applied
  rw [ba_append, ba_extract, List.drop_zero, Nat.sub_zero]
theorem isScreen_extract {s : ByteArray} (i j : Nat) (h : isScreen s = true) : isScreen (s.extract i j) = true := by
  have h1 := isScreen_size h
  have h2 := isScreen_all h
  unfold isScreen
  rw [ba_extract, allIn_take _ (allIn_drop _ h2), Bool.and_true, decide_eq_true_iff, ByteArray.size_extract]
  omega

theorem least_valid {s t : ByteArray} (h : leastOk s t = true) : validEdit (leastBack s t) (leastText s t) = true := by
  simp only [leastOk, Bool.and_eq_true] at h
  have h1 := isScreen_size h.1
  have h2 := comm_le s t
  unfold validEdit leastText leastBack inB
  rw [isScreen_extract _ _ h.2]
  simp only [Bool.and_true, Bool.and_eq_true, decide_eq_true_iff]
  omega
theorem least_applied (s t : ByteArray) : applied s (leastBack s t) (leastText s t) = t := by
  have h2 := comm_le s t
  have hc : s.size - (leastBack s t).toNat = comm s t := by unfold leastBack; omega
  apply ba_ext
  rw [applied_data, hc]
  unfold leastText
  rw [ba_extract]
  have := cpl_take s.data.toList t.data.toList
  show List.take (comm s t) _ ++ _ = _
  unfold comm
  rw [this]
  exact (congrArg _ (take_rest t _)).trans (List.take_append_drop _ _)
theorem least_applyOk {s t : ByteArray} (h : leastOk s t = true) : applyOk s (leastBack s t) (leastText s t) = true ∧ applyOut s (leastBack s t) (leastText s t) = t := by
  have h0 := h
  simp only [leastOk, Bool.and_eq_true] at h
  have h2 := comm_le s t
  have hk : applyOk s (leastBack s t) (leastText s t) = true := by
    unfold applyOk
    rw [h.1, least_valid h0, least_applied, decide_eq_true (isScreen_size h.2), decide_eq_true (by unfold leastBack; omega)]
    rfl
  exact ⟨hk, by unfold applyOut; rw [if_pos hk, least_applied]⟩
theorem least_none {s t : ByteArray} : (leastBack s t = 0 ∧ leastText s t = ⟨#[]⟩) ↔ s = t := by
  constructor
  · intro ⟨h1, h2⟩
    have := least_applied s t
    rw [h1, h2] at this
    rw [← this]
    apply ba_ext
    rw [applied_data]
    show s.data.toList = List.take (s.size - 0) s.data.toList ++ []
    rw [List.append_nil, Nat.sub_zero]
    exact (List.take_of_length_le (Nat.le_of_eq (ba_size s).symm)).symm
  · intro h; subst h
    have hc : comm s s = s.size := by unfold comm; rw [cpl_self, ba_size]
    refine ⟨by unfold leastBack; rw [hc]; omega, ?_⟩
    unfold leastText
    rw [hc]
    apply ba_ext
    rw [ba_extract, Nat.sub_self, List.take_zero]
theorem apply_screen {s : ByteArray} {b : Int} {t : ByteArray} (h : applyOk s b t = true) : isScreen s = true ∧ isScreen (applied s b t) = true ∧ isScreen t = true := by
  simp only [applyOk, Bool.and_eq_true, decide_eq_true_iff] at h
  refine ⟨h.1.1.1, ?_, validEdit_screen h.1.1.2⟩
  rw [applied_screen h.1.1.1 (validEdit_screen h.1.1.2), decide_eq_true_iff]
  exact h.2
theorem least_min {s : ByteArray} {b : Int} {t : ByteArray} (h : applyOk s b t = true) : leastBack s (applied s b t) + ((leastText s (applied s b t)).size : Int) ≤ b + t.size := by
  obtain ⟨hb0, hb1, _, _⟩ := applyOk_bd h
  have hz := applied_size (t := t) hb0 hb1
  have h2 := comm_le s (applied s b t)
  have hc : s.size - b.toNat ≤ comm s (applied s b t) := by
    unfold comm
    rw [applied_data]
    have := cpl_same_head (s.data.toList.take (s.size - b.toNat)) (s.data.toList.drop (s.size - b.toNat)) t.data.toList
    rw [List.take_append_drop, List.length_take, ← ba_size] at this
    omega
  unfold leastBack leastText
  rw [ByteArray.size_extract]
  omega
theorem inv_back {s : ByteArray} {b : Int} {t : ByteArray} (h : applyOk s b t = true) : applied (applied s b t) (invBack t) (invText s b) = s := by
  obtain ⟨hb0, hb1, _, _⟩ := applyOk_bd h
  have hz := applied_size (t := t) hb0 hb1
  apply ba_ext
  rw [applied_data, applied_data]
  unfold invText invBack
  have e : (applied s b t).size - ((t.size : Int)).toNat = (s.data.toList.take (s.size - b.toNat)).length := by
    rw [List.length_take, ← ba_size]; omega
  rw [e, List.take_left, ba_extract]
  exact (congrArg _ (take_rest s _)).trans (List.take_append_drop _ _)
theorem inv_apply {s : ByteArray} {b : Int} {t : ByteArray} (h : applyOk s b t = true) : applyOk (applied s b t) (invBack t) (invText s b) = true ∧ applyOut (applied s b t) (invBack t) (invText s b) = s := by
  obtain ⟨hb0, hb1, ht2, hs2⟩ := applyOk_bd h
  have hz := applied_size (t := t) hb0 hb1
  obtain ⟨k1, k2, k3⟩ := apply_screen h
  have hk : applyOk (applied s b t) (invBack t) (invText s b) = true := by
    unfold applyOk
    rw [k2, inv_back h, decide_eq_true hs2, decide_eq_true (by unfold invBack; omega)]
    unfold validEdit inB invText invBack
    rw [isScreen_extract _ _ k1]
    simp only [Bool.and_true, Bool.true_and, Bool.and_eq_true, decide_eq_true_iff]
    omega
  exact ⟨hk, by unfold applyOut; rw [if_pos hk, inv_back h]⟩

theorem comp_applied {s : ByteArray} {b1 : Int} {t1 : ByteArray} {b2 : Int} {t2 : ByteArray} (h1 : applyOk s b1 t1 = true) (h2 : applyOk (applied s b1 t1) b2 t2 = true) :
    applied s (compBack b1 t1 b2) (compText t1 b2 t2) = applied (applied s b1 t1) b2 t2 := by
  obtain ⟨hb0, hb1, _, _⟩ := applyOk_bd h1
  obtain ⟨hc0, hc1, _, _⟩ := applyOk_bd h2
  have hz := applied_size (t := t1) hb0 hb1
  apply ba_ext
  rw [applied_data, applied_data, applied_data]
  have hl : (s.data.toList.take (s.size - b1.toNat)).length = s.size - b1.toNat := by
    rw [List.length_take, ← ba_size]; omega
  unfold compBack compText
  by_cases hle : b2 ≤ t1.size
  · rw [if_pos hle, if_pos hle, ba_append, ba_extract, List.drop_zero, Nat.sub_zero, List.take_append, hl, List.append_assoc]
    rw [show (applied s b1 t1).size - b2.toNat = (s.size - b1.toNat) + (t1.size - b2.toNat) by omega]
    rw [Nat.add_sub_cancel_left, List.take_of_length_le (l := List.take _ _) (by rw [hl]; omega)]
  · rw [if_neg hle, if_neg hle, List.take_append, hl]
    rw [show (applied s b1 t1).size - b2.toNat - (s.size - b1.toNat) = 0 by omega, List.take_zero, List.append_nil, List.take_take]
    congr 2
    omega
theorem comp_apply {s : ByteArray} {b1 : Int} {t1 : ByteArray} {b2 : Int} {t2 : ByteArray} (h1 : applyOk s b1 t1 = true) (h2 : applyOk (applied s b1 t1) b2 t2 = true) (h3 : compOk b1 t1 b2 t2 = true) :
    applyOk s (compBack b1 t1 b2) (compText t1 b2 t2) = true ∧ applyOut s (compBack b1 t1 b2) (compText t1 b2 t2) = applyOut (applied s b1 t1) b2 t2 := by
  obtain ⟨hb0, hb1, _, _⟩ := applyOk_bd h1
  obtain ⟨hc0, hc1, _, _⟩ := applyOk_bd h2
  have hz := applied_size (t := t1) hb0 hb1
  obtain ⟨k1, k2, k3⟩ := apply_screen h1
  obtain ⟨_, k5, _⟩ := apply_screen h2
  simp only [compOk, Bool.and_eq_true] at h3
  have hk : applyOk s (compBack b1 t1 b2) (compText t1 b2 t2) = true := by
    unfold applyOk
    rw [k1, h3.2, comp_applied h1 h2, decide_eq_true (isScreen_size k5), decide_eq_true (by unfold compBack; split <;> omega)]
    rfl
  refine ⟨hk, ?_⟩
  unfold applyOut
  rw [if_pos hk, if_pos h2, comp_applied h1 h2]

theorem applyOut_size (s : ByteArray) (b : Int) (t : ByteArray) : (applyOut s b t).size ≤ 2000 := by
  unfold applyOut
  split
  · rename_i h; exact isScreen_size (apply_screen h).2.1
  · exact Nat.zero_le _
theorem compTextOut_size (b1 : Int) (t1 : ByteArray) (b2 : Int) (t2 : ByteArray) : (compTextOut b1 t1 b2 t2).size ≤ 2000 := by
  unfold compTextOut
  split
  · rename_i h
    simp only [compOk, Bool.and_eq_true] at h
    exact isScreen_size (validEdit_screen h.2)
  · exact Nat.zero_le _
theorem leastTextOut_size (s t : ByteArray) : (leastTextOut s t).size ≤ 2000 := by
  unfold leastTextOut
  split
  · rename_i h; exact isScreen_size (validEdit_screen (least_valid h))
  · exact Nat.zero_le _
theorem comp_told {s : ByteArray} {b1 : Int} {t1 : ByteArray} {b2 : Int} {t2 : ByteArray} (h1 : applyOk s b1 t1 = true) (h2 : applyOk (applyOut s b1 t1) b2 t2 = true) (h3 : compOk b1 t1 b2 t2 = true) :
    applyOk s (compBackOut b1 t1 b2 t2) (compTextOut b1 t1 b2 t2) = true ∧ applyOut s (compBackOut b1 t1 b2 t2) (compTextOut b1 t1 b2 t2) = applyOut (applyOut s b1 t1) b2 t2 := by
  have e : applyOut s b1 t1 = applied s b1 t1 := by unfold applyOut; rw [if_pos h1]
  rw [e] at h2 ⊢
  have e2 : compBackOut b1 t1 b2 t2 = compBack b1 t1 b2 := by unfold compBackOut; rw [if_pos h3]
  have e3 : compTextOut b1 t1 b2 t2 = compText t1 b2 t2 := by unfold compTextOut; rw [if_pos h3]
  rw [e2, e3]
  exact comp_apply h1 h2 h3

theorem least_out {s t : ByteArray} (h : leastOk s t = true) : leastBackOut s t = leastBack s t ∧ leastTextOut s t = leastText s t := by
  unfold leastBackOut leastTextOut; rw [if_pos h, if_pos h]; exact ⟨rfl, rfl⟩
theorem least_no {s t : ByteArray} (h : leastOk s t = false) : leastBackOut s t = 0 ∧ leastTextOut s t = ⟨#[]⟩ := by
  unfold leastBackOut leastTextOut; rw [h]; exact ⟨rfl, rfl⟩
/-- what the law asks of the least edit between two screens -/
theorem least_told {s t : ByteArray} (h : leastOk s t = true) : validEdit (leastBackOut s t) (leastTextOut s t) = true ∧ applyOk s (leastBackOut s t) (leastTextOut s t) = true ∧ applyOut s (leastBackOut s t) (leastTextOut s t) = t := by
  rw [(least_out h).1, (least_out h).2]
  exact ⟨least_valid h, least_applyOk h⟩
theorem least_same {s t : ByteArray} (h : leastOk s t = true) (e : s = t) : leastBackOut s t = 0 ∧ leastTextOut s t = ⟨#[]⟩ := by
  rw [(least_out h).1, (least_out h).2]
  exact least_none.2 e
theorem least_other {s t : ByteArray} (h : leastOk s t = true) (e : s ≠ t) : ¬ (leastBackOut s t = 0 ∧ leastTextOut s t = ⟨#[]⟩) := by
  rw [(least_out h).1, (least_out h).2]
  exact fun hh => e (least_none.1 hh)
/-- .. and of an edit that applies -/
theorem apply_told {s : ByteArray} {b : Int} {t : ByteArray} (h : applyOk s b t = true) :
    leastOk s (applyOut s b t) = true ∧ leastBackOut s (applyOut s b t) + ((leastTextOut s (applyOut s b t)).size : Int) ≤ b + t.size ∧ 0 ≤ leastBackOut s (applyOut s b t) ∧ leastBackOut s (applyOut s b t) ≤ 2000 ∧
    applyOk (applyOut s b t) (invBackOut s b t) (invTextOut s b t) = true ∧ applyOut (applyOut s b t) (invBackOut s b t) (invTextOut s b t) = s := by
  have e : applyOut s b t = applied s b t := by unfold applyOut; rw [if_pos h]
  have e2 : invBackOut s b t = invBack t := by unfold invBackOut; rw [if_pos h]
  have e3 : invTextOut s b t = invText s b := by unfold invTextOut; rw [if_pos h]
  obtain ⟨k1, k2, _⟩ := apply_screen h
  have hk : leastOk s (applied s b t) = true := by unfold leastOk; rw [k1, k2]; rfl
  rw [e, e2, e3, (least_out hk).1, (least_out hk).2]
  have hv := validEdit_bd (least_valid hk)
  exact ⟨hk, least_min h, hv.1, hv.2, inv_apply h⟩
theorem invTextOut_size (s : ByteArray) (b : Int) (t : ByteArray) (hs : s.size ≤ 1048576) : (invTextOut s b t).size ≤ 1048576 := by
  unfold invTextOut
  split
  · unfold invText; rw [ByteArray.size_extract]; omega
  · exact Nat.zero_le _

end Pl
end Go.Proofs.Ytfjdbchffhbidaa
