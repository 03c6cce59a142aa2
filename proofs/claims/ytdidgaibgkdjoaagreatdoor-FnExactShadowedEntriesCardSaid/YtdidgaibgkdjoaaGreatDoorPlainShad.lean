/-
  PLAIN: the entries of a stack that others hide.
-/
import Derived.Test.YtdidgaibgkdjoaaGreatDoorGrC
namespace Go.Proofs.YtdidgaibgkdjoaaGreatDoor
open Go.RowKit

abbrev Sh := Int × Int × List Int
/-- what is said of an entry that lies in the layer i (y: whether the layer is on) -/
def shOne (S : List Lay) (i : Nat) (y : Bool) (o : List Int) : List Sh := if y = true ∧ (stFrom o 0 S).2.1 < (i : Int) then [((i : Int), (stFrom o 0 S).2.1, o)] else []
def shIn (S : List Lay) (i : Nat) (y : Bool) (l : List Ent) : List Sh := l.flatMap fun p => shOne S i y p.1
def shTo (S : List Lay) : Nat → List Sh
  | 0 => []
  | i + 1 => shTo S i ++ (match S[i]? with | some q => shIn S i q.2 q.1 | none => [])
theorem shTo_next {S : List Lay} {i : Nat} (hi : i < S.length) {q : Lay} (hq : S[i] = q) : shTo S (i + 1) = shTo S i ++ shIn S i q.2 q.1 := by
  conv => lhs; unfold shTo
  rw [List.getElem?_eq_getElem hi, hq]
theorem shIn_zero (S : List Lay) (i : Nat) (y : Bool) (l : List Ent) : shIn S i y (l.take 0) = [] := by rw [List.take_zero]; rfl
theorem shIn_next {S : List Lay} {i : Nat} {y : Bool} {l : List Ent} {k : Nat} (hk : k < l.length) : shIn S i y (l.take (k + 1)) = shIn S i y (l.take k) ++ shOne S i y (l[k]).1 := by
  unfold shIn
  rw [List.take_add_one, List.getElem?_eq_getElem hk, List.flatMap_append]
  congr 1
  simp
theorem shIn_all (S : List Lay) (i : Nat) (y : Bool) (l : List Ent) : shIn S i y (l.take l.length) = shIn S i y l := by rw [List.take_length]
theorem shIn_off (S : List Lay) (i : Nat) (l : List Ent) : shIn S i false l = [] := by
  unfold shIn
  rw [List.flatMap_eq_nil_iff]
  intro p _
  unfold shOne
  rw [if_neg (fun h => absurd h.1 (by decide))]
theorem shOne_yes {S : List Lay} {i : Nat} {o : List Int} (h : (stFrom o 0 S).2.1 < (i : Int)) : shOne S i true o = [((i : Int), (stFrom o 0 S).2.1, o)] := if_pos ⟨rfl, h⟩
theorem shOne_no {S : List Lay} {i : Nat} {y : Bool} {o : List Int} (h : ¬ (stFrom o 0 S).2.1 < (i : Int)) : shOne S i y o = [] := if_neg (fun h2 => h h2.2)
theorem shOne_off {S : List Lay} {i : Nat} {o : List Int} : shOne S i false o = [] := if_neg (fun h => absurd h.1 (by decide))
theorem shOne_len (S : List Lay) (i : Nat) (y : Bool) (o : List Int) : (shOne S i y o).length ≤ 1 := by unfold shOne; split <;> simp
theorem shIn_len (S : List Lay) (i : Nat) (y : Bool) : ∀ l : List Ent, (shIn S i y l).length ≤ l.length
  | [] => Nat.le_refl _
  | p :: r => by
    have h1 := shIn_len S i y r
    have h2 := shOne_len S i y p.1
    unfold shIn at h1 ⊢
    rw [List.flatMap_cons, List.length_append, List.length_cons]
    omega
theorem shTo_len {S : List Lay} {m : Nat} (h : ∀ q ∈ S, q.1.length ≤ m) : ∀ i, (shTo S i).length ≤ i * m
  | 0 => Nat.zero_le _
  | i + 1 => by
    unfold shTo
    rw [List.length_append, Nat.add_mul, Nat.one_mul]
    have h1 := shTo_len h i
    cases e : S[i]? with
    | none => simp; omega
    | some q =>
      have h2 := shIn_len S i q.2 q.1
      have h3 := h q (List.mem_of_getElem? e)
      dsimp only
      omega

theorem stI_neg {o : List Int} : ∀ {n : Nat} {l : List Lay}, stI o n l = -1 → ∀ q ∈ l, layHit o q = false
  | _, [], _, q, hq => absurd hq List.not_mem_nil
  | n, p :: r, h, q, hq => by
    unfold stI at h
    by_cases hp : layHit o p = true
    · rw [if_pos hp] at h; omega
    · rw [if_neg hp] at h
      rcases List.mem_cons.1 hq with e | e
      · subst e; exact Bool.not_eq_true _ ▸ hp
      · exact stI_neg h q e
theorem hasD_mem {l : List Ent} {p : Ent} (h : p ∈ l) : Pl.hasD l p.1 = true := by
  unfold Pl.hasD Pl.atD
  cases e : l.findIdx? (fun x => x.1 == p.1) with
  | some k => exact decide_eq_true (Int.natCast_nonneg k)
  | none =>
    rw [List.findIdx?_eq_none_iff] at e
    have := e p h
    simp at this
/-- an entry of a layer that is on is found: both ways of looking agree -/
theorem st_agree {S : List Lay} {i k : Nat} (hi : i < S.length) (hy : (S[i]).2 = true) (hk : k < (S[i]).1.length) : stI ((S[i]).1[k]).1 0 S = (stFrom ((S[i]).1[k]).1 0 S).2.1 ∧ 0 ≤ (stFrom ((S[i]).1[k]).1 0 S).2.1 := by
  rcases st_cases ((S[i]).1[k]).1 0 S with ⟨h, _⟩ | ⟨j, hj, h1, h2, _⟩
  · have := stI_neg h _ (List.getElem_mem hi)
    unfold layHit at this
    rw [hy, hasD_mem (List.getElem_mem hk)] at this
    exact absurd this (by decide)
  · rw [h1, h2]
    exact ⟨rfl, by dsimp only; omega⟩

def shOut (S : List Lay) : List Sh := if stackOk S = true then shTo S S.length else []
theorem stack_told {S : List Lay} (h : stackOk S = true) : S.length ≤ 4 ∧ ∀ q ∈ S, Pl.dictOk q.1 = true := by
  unfold stackOk at h
  rw [Bool.and_eq_true, decide_eq_true_iff, List.all_eq_true] at h
  exact ⟨h.1, fun q hq => h.2 q hq⟩
theorem shOut_len (S : List Lay) : (shOut S).length ≤ 160 := by
  unfold shOut
  split
  · rename_i h
    obtain ⟨h4, h5⟩ := stack_told h
    have := shTo_len (m := 40) (fun q hq => Pl.dict_len (h5 q hq)) S.length
    omega
  · exact Nat.zero_le _
/-- the outlines in it are those of entries -/
theorem shIn_mem {S : List Lay} {i : Nat} {y : Bool} {l : List Ent} {q : Sh} (h : q ∈ shIn S i y l) : ∃ p ∈ l, q.2.2 = p.1 := by
  unfold shIn at h
  obtain ⟨p, hp, h2⟩ := List.mem_flatMap.1 h
  unfold shOne at h2
  split at h2
  · rw [List.mem_singleton] at h2; exact ⟨p, hp, by rw [h2]⟩
  · exact absurd h2 List.not_mem_nil
theorem shTo_mem {S : List Lay} {q : Sh} : ∀ {i : Nat}, q ∈ shTo S i → ∃ l ∈ S, ∃ p ∈ l.1, q.2.2 = p.1
  | 0, h => absurd h List.not_mem_nil
  | i + 1, h => by
    unfold shTo at h
    rcases List.mem_append.1 h with h | h
    · exact shTo_mem h
    · cases e : S[i]? with
      | none => rw [e] at h; exact absurd h List.not_mem_nil
      | some r =>
        rw [e] at h
        obtain ⟨p, hp, e2⟩ := shIn_mem h
        exact ⟨r, List.mem_of_getElem? e, p, hp, e2⟩
theorem shOut_mem {S : List Lay} {q : Sh} (h : q ∈ shOut S) : ∃ l ∈ S, ∃ p ∈ l.1, q.2.2 = p.1 := by
  unfold shOut at h
  split at h
  · exact shTo_mem h
  · exact absurd h List.not_mem_nil

end Go.Proofs.YtdidgaibgkdjoaaGreatDoor
