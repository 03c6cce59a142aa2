/-
  PLAIN: the screen of strokes: the atoms of the pieces, and what they render to.
-/
import Derived.Test.YtdidgaibgkdjoaaGreatDoorPlainSeg
import Derived.Test.YtdidgaibgkdjoaaGreatDoorPlainRaw
import Derived.Test.YtdidgaibgkdjoaaGreatDoorPlainAtoms
namespace Go.Proofs.YtdidgaibgkdjoaaGreatDoor
open Go.RowKit

abbrev At2 := Int × ByteArray
/-- the atoms of a piece -/
def pcAtoms (o : List Int) (p : Pc) : List At2 := if p.2.2.toList.isEmpty = true then [(1, Pl.rawB (o.getD p.1.toNat 0).toNat)] else Pl.transOut p.2.2
def pcsAtoms (o : List Int) (P : List Pc) : List At2 := P.flatMap (pcAtoms o)
def scAtoms (l : List Ent) (o : List Int) : List At2 := pcsAtoms o (segs l o)
theorem pcs_next {o : List Int} {P : List Pc} {k : Nat} (hk : k < P.length) {p : Pc} (hp : P[k] = p) : pcsAtoms o (P.take (k + 1)) = pcsAtoms o (P.take k) ++ pcAtoms o p := by
  unfold pcsAtoms
  rw [List.take_add_one, List.getElem?_eq_getElem hk, List.flatMap_append, hp]
  congr 1
  simp
theorem pc_raw {o : List Int} {i c : Int} {t : ByteArray} (h : t.toList.isEmpty = true) : pcAtoms o (i, c, t) = [(1, Pl.rawB (o.getD i.toNat 0).toNat)] := if_pos h
theorem pc_text {o : List Int} {i c : Int} {t : ByteArray} (h : t.toList.isEmpty = false) : pcAtoms o (i, c, t) = Pl.transOut t := if_neg (by rw [h]; decide)
theorem transOut_len {s : ByteArray} : (Pl.transOut s).length ≤ 10 := by
  cases h : Pl.transOk s with
  | false => rw [Pl.out_no h]; exact Nat.zero_le _
  | true =>
    rw [Pl.out_yes h, List.length_map]
    unfold Pl.transOk at h
    simp only [Bool.and_eq_true, decide_eq_true_iff] at h
    exact h.2
theorem pcAtoms_len (o : List Int) (p : Pc) : (pcAtoms o p).length ≤ 10 := by
  unfold pcAtoms
  split
  · simp
  · exact transOut_len
theorem pcsAtoms_len (o : List Int) : ∀ P : List Pc, (pcsAtoms o P).length ≤ P.length * 10
  | [] => Nat.le_refl _
  | p :: r => by
    have h1 := pcsAtoms_len o r
    have h2 := pcAtoms_len o p
    unfold pcsAtoms at h1 ⊢
    rw [List.flatMap_cons, List.length_append, List.length_cons]
    omega
theorem transOut_okS {s : ByteArray} : ∀ p ∈ Pl.transOut s, Pl.atomOk p.1 p.2 = true := by
  cases h : Pl.transOk s with
  | false => rw [Pl.out_no h]; exact fun p hp => absurd hp List.not_mem_nil
  | true =>
    rw [Pl.out_yes h]
    unfold Pl.transOk at h
    simp only [Bool.and_eq_true] at h
    exact fun p hp => List.all_eq_true.1 (Pl.parsed_fmt h.1.2).2 p hp
theorem transOut_sz {s : ByteArray} : ∀ p ∈ Pl.transOut s, p.2.size ≤ 24 := fun p hp => Nat.le_trans (Pl.atomOk_prt (transOut_okS p hp)).2 (by omega)
theorem pcAtoms_sz (o : List Int) (q : Pc) : ∀ p ∈ pcAtoms o q, p.2.size ≤ 24 := by
  unfold pcAtoms
  split
  · intro p hp
    rw [List.mem_singleton] at hp
    rw [hp]
    exact Pl.rawB_len _
  · exact transOut_sz
theorem pcsAtoms_sz (o : List Int) (P : List Pc) : ∀ p ∈ pcsAtoms o P, p.2.size ≤ 24 := by
  intro p hp
  obtain ⟨q, _, h⟩ := List.mem_flatMap.1 hp
  exact pcAtoms_sz o q p h

/-- a piece of strokes: it begins at one of them, and its text is none or a translation -/
def PcOk (o : List Int) (p : Pc) : Prop := ∃ i : Nat, p.1 = (i : Int) ∧ i < o.length ∧ (p.2.2 = ⟨#[]⟩ ∨ Pl.transOk p.2.2 = true)
theorem textD_trans {l : List Ent} {o : List Int} (h : Pl.dictOk l = true) (hh : Pl.hasD l o = true) : Pl.transOk (Pl.textD l o) = true := by
  rcases Pl.atD_cases l o with h1 | ⟨k, hk, h1, _⟩
  · unfold Pl.hasD at hh; rw [h1] at hh; exact absurd hh (by decide)
  · rw [Pl.textD_hit hk h1]
    have := Pl.dict_ent h hk
    unfold Pl.entOk at this
    rw [Bool.and_eq_true] at this
    exact this.2
theorem matD_text {l : List Ent} {o : List Int} {i : Nat} (hd : Pl.dictOk l = true) : ∀ n, (matD l o i n).2.2 = ⟨#[]⟩ ∨ Pl.transOk (matD l o i n).2.2 = true
  | 0 => .inl rfl
  | n + 1 => by
    unfold matD
    split
    · rename_i h
      exact .inr (textD_trans hd h.2)
    · exact matD_text hd n
theorem segL_ok {l : List Ent} {o : List Int} (hd : Pl.dictOk l = true) : ∀ f a, ∀ p ∈ segL l o f a, PcOk o p
  | 0, _, p, h => absurd h List.not_mem_nil
  | f + 1, a, p, h => by
    unfold segL at h
    by_cases ha : a < o.length
    · rw [if_pos ha] at h
      rcases List.mem_cons.1 h with e | e
      · obtain ⟨c, e2, _, _⟩ := matD_told l o a ha 6
        refine ⟨a, ?_, ha, ?_⟩
        · rw [e, e2]
        · rw [e]; exact matD_text hd 6
      · exact segL_ok hd f _ p e
    · rw [if_neg ha] at h
      exact absurd h List.not_mem_nil
theorem segs_ok {l : List Ent} {o : List Int} (hd : Pl.dictOk l = true) : ∀ p ∈ segs l o, PcOk o p := segL_ok hd _ _

theorem stroke_bd {o : List Int} (h : o.all Pl.strokeB = true) {i : Nat} (hi : i < o.length) : ∃ n : Nat, o[i] = (n : Int) ∧ o.getD i 0 = (n : Int) ∧ 1 ≤ n ∧ n < 8388608 := by
  have h1 := List.all_eq_true.1 h _ (List.getElem_mem hi)
  unfold Pl.strokeB Pl.inB at h1
  rw [Bool.and_eq_true, decide_eq_true_iff, decide_eq_true_iff] at h1
  refine ⟨(o[i]).toNat, by omega, ?_, by omega, by omega⟩
  rw [List.getD_eq_getElem?_getD, List.getElem?_eq_getElem hi]
  show o[i] = _
  omega

def scOk (l : List Ent) (o : List Int) : Bool := matOk l o && Pl.renderOk (scAtoms l o)
def scOut (l : List Ent) (o : List Int) : ByteArray := if scOk l o = true then Pl.renderOut (scAtoms l o) else ⟨#[]⟩
theorem scAtoms_len {l : List Ent} {o : List Int} (h : matOk l o = true) : (scAtoms l o).length ≤ 600 := by
  have h1 := (matOk_told h).2.1
  have h2 := segs_len l o
  have h3 := pcsAtoms_len o (segs l o)
  unfold scAtoms
  omega
theorem render_none {l : List At2} (h : Pl.renderOk l = false) : Pl.renderOut l = ⟨#[]⟩ := Pl.aps_noT h
theorem scr_yes {l : List Ent} {o : List Int} (h : matOk l o = true) : scOk l o = Pl.renderOk (scAtoms l o) ∧ scOut l o = Pl.renderOut (scAtoms l o) := by
  have h1 : scOk l o = Pl.renderOk (scAtoms l o) := by unfold scOk; rw [h, Bool.true_and]
  refine ⟨h1, ?_⟩
  unfold scOut
  rw [h1]
  cases h2 : Pl.renderOk (scAtoms l o)
  · rw [if_neg (by decide), render_none h2]
  · rw [if_pos rfl]
theorem scr_no {l : List Ent} {o : List Int} (h : matOk l o = false) : scOk l o = false ∧ scOut l o = ⟨#[]⟩ := by
  have h1 : scOk l o = false := by unfold scOk; rw [h, Bool.false_and]
  exact ⟨h1, by unfold scOut; rw [h1]; rfl⟩

/-- the reference's way: a state that is too long is seen at the next atom, or at the end -/
def ScAt (l : List At2) (n : Nat) (s : Pl.Sta) : Prop := (Pl.At Pl.start l n s ∧ Pl.sOk s = true) ∨ (¬ s.t.size ≤ 2000 ∧ s.t.size ≤ 2100 ∧ Pl.aps Pl.start l = none)
theorem sc_start (l : List At2) : ScAt l 0 Pl.start := .inl ⟨Pl.At.zero _ _, by decide⟩
theorem ScAt.size {l : List At2} {n : Nat} {s : Pl.Sta} (h : ScAt l n s) : s.t.size ≤ 2100 := by
  rcases h with ⟨_, h⟩ | ⟨_, h, _⟩
  · have := Pl.sOk_size h; omega
  · exact h
theorem ScAt.long {l : List At2} {n : Nat} {s : Pl.Sta} (h : ScAt l n s) (hz : ¬ s.t.size ≤ 2000) : Pl.aps Pl.start l = none := by
  rcases h with ⟨_, h⟩ | ⟨_, _, h⟩
  · exact absurd (Pl.sOk_size h) hz
  · exact h
theorem ScAt.told {l : List At2} {n : Nat} {s : Pl.Sta} (h : ScAt l n s) (hz : s.t.size ≤ 2000) : Pl.At Pl.start l n s ∧ Pl.sOk s = true := by
  rcases h with h | ⟨h, _, _⟩
  · exact h
  · exact absurd hz h
theorem ScAt.bad {l : List At2} {n : Nat} {s : Pl.Sta} (h : ScAt l n s) (hn : n < l.length) (ha : Pl.atomOk l[n].1 l[n].2 = false) : Pl.aps Pl.start l = none := by
  rcases h with ⟨h, _⟩ | ⟨_, _, h⟩
  · exact h.fail hn (Pl.ap_bad2 ha).1
  · exact h
theorem ScAt.next {l : List At2} {n : Nat} {s : Pl.Sta} (h : ScAt l n s) (hn : n < l.length) (hz : s.t.size ≤ 2000) (ha : Pl.atomOk l[n].1 l[n].2 = true) : ScAt l (n + 1) (Pl.ap s l[n].1 l[n].2) := by
  obtain ⟨h1, h2⟩ := h.told hz
  by_cases h3 : (Pl.ap s l[n].1 l[n].2).t.size ≤ 2000
  · have h4 := Pl.ap_good h2 ha h3
    have h5 := h1.succ hn h4.1
    rw [h4.2] at h5
    exact .inl ⟨h5, by rw [(Pl.ap_told h2 ha).1, decide_eq_true h3]⟩
  · exact .inr ⟨h3, (Pl.ap_told h2 ha).2, h1.fail hn (Pl.ap_bad3 h3).1⟩
theorem sc_fail {l : List At2} (h : Pl.aps Pl.start l = none) : Pl.renderOk l = false ∧ Pl.renderOut l = ⟨#[]⟩ := by
  have h1 := Pl.aps_none h
  exact ⟨h1.1, by unfold Pl.renderOut; rw [h1.2]; rfl⟩
theorem sc_end {l : List At2} {s : Pl.Sta} (h : ScAt l l.length s) (hl : l.length ≤ 600) : Pl.renderOk l = Pl.sOk s ∧ (Pl.sOk s = true → Pl.renderOut l = s.t) := by
  rcases h with ⟨h1, h2⟩ | ⟨h1, _, h3⟩
  · have h4 := Pl.aps_some (by decide : Pl.sOk Pl.start = true) hl h1.last
    exact ⟨by rw [h2]; exact h4.1, fun _ => by unfold Pl.renderOut; rw [h4.2]⟩
  · have h4 : Pl.sOk s = false := by
      cases h5 : Pl.sOk s with
      | false => rfl
      | true => exact absurd (Pl.sOk_size h5) h1
    exact ⟨by rw [h4]; exact (sc_fail h3).1, fun h5 => by rw [h4] at h5; exact absurd h5 (by decide)⟩

end Go.Proofs.YtdidgaibgkdjoaaGreatDoor
