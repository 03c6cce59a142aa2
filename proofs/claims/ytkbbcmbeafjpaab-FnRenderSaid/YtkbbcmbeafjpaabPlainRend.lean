/-
  PLAIN: a list of words renders as the words separated by spaces. No program is in sight.
-/
import Derived.Test.YtkbbcmbeafjpaabPlainForm
import Derived.Lib.Join
import Derived.Lib.IndexLaws
namespace Go.Proofs.Ytkbbcmbeafjpaab
namespace Pl

def isW (p : Int × ByteArray) : Bool := decide (p.1 = 1)
/-- the texts of the words of a list of atoms -/
def wds (l : List (Int × ByteArray)) : List ByteArray := (l.filter isW).map Prod.snd
def joinS (ws : List ByteArray) : ByteArray := ⟨(Lib.join (ws.map (·.data.toList)) [32]).toArray⟩
theorem wds_len (l : List (Int × ByteArray)) (k : Nat) : (wds (l.take k)).length ≤ k := by
  unfold wds
  rw [List.length_map]
  exact Nat.le_trans (List.length_filter_le _ _) (by rw [List.length_take]; omega)
theorem filt_next {l : List (Int × ByteArray)} {k : Nat} (hk : k < l.length) : (l.take (k + 1)).filter isW = (l.take k).filter isW ++ (if (l[k]).1 = 1 then [l[k]] else []) := by
  rw [List.take_add_one, List.getElem?_eq_getElem hk, List.filter_append]
  congr 1
  simp only [Option.toList_some, List.filter_cons, List.filter_nil, isW, decide_eq_true_iff]
theorem wds_next {l : List (Int × ByteArray)} {k : Nat} (hk : k < l.length) : wds (l.take (k + 1)) = wds (l.take k) ++ (if (l[k]).1 = 1 then [(l[k]).2] else []) := by
  unfold wds
  rw [filt_next hk, List.map_append]
  congr 1
  split <;> rfl

theorem ap_word (s : Sta) (x : ByteArray) (hc : s.c = 0) : ap s 1 x = ⟨spaced s ++ x, false, false, 0, (spaced s).size⟩ := by
  unfold ap
  rw [if_pos rfl, hc]
  rfl
/-- words behind a state -/
theorem words_aps : ∀ (m : List (Int × ByteArray)) (s : Sta), sOk s = true → s.c = 0 → (∀ p ∈ m, p.1 = 1 ∧ wordT p.2 = true) → s.t.size + 21 * m.length ≤ 2000 →
    ∃ r, aps s m = some r ∧ r.t.data.toList = (match m with | [] => s.t.data.toList | p :: q => (spaced s).data.toList ++ p.2.data.toList ++ Lib.joinTail [32] (q.map (·.2.data.toList))) := by
  intro m
  induction m with
  | nil => intro s _ _ _ _; exact ⟨s, rfl, rfl⟩
  | cons p q ih =>
    intro s hs hc hp hz
    obtain ⟨pa, px⟩ := p
    obtain ⟨h1, h2⟩ := hp _ List.mem_cons_self
    dsimp only at h1 h2
    subst h1
    have hw := (wordT_prt h2).2.2
    have e := ap_word s px hc
    have hat : atomOk 1 px = true := by unfold atomOk; rw [if_pos (Or.inl rfl)]; exact h2
    have hsz : (ap s 1 px).t.size ≤ s.t.size + 21 := by
      rw [e]
      show (spaced s ++ px).size ≤ _
      rw [ByteArray.size_append]
      have := spaced_size s
      omega
    simp only [List.length_cons] at hz
    obtain ⟨g1, g2⟩ := ap_good hs hat (by omega)
    have hok : sOk (ap s 1 px) = true := (apOk_told g1).2.2.2.2
    obtain ⟨r, r1, r2⟩ := ih (ap s 1 px) hok (by rw [e]) (fun p' h' => hp p' (List.mem_cons_of_mem _ h')) (by omega)
    refine ⟨r, ?_, ?_⟩
    · show (if apOk s 1 px = true then aps (apOut s 1 px) q else none) = some r
      rw [g1, if_pos rfl, g2]; exact r1
    · rw [r2]
      have et : (ap s 1 px).t = spaced s ++ px := by rw [e]
      have ej : spaced (ap s 1 px) = spaced s ++ px ++ ⟨#[32]⟩ := by rw [e]; rfl
      cases q with
      | nil =>
        show (ap s 1 px).t.data.toList = (spaced s).data.toList ++ px.data.toList ++ Lib.joinTail [32] []
        rw [et, ba_append]
        show _ = (spaced s).data.toList ++ px.data.toList ++ []
        rw [List.append_nil]
      | cons p' q' =>
        show (spaced (ap s 1 px)).data.toList ++ p'.2.data.toList ++ Lib.joinTail [32] (q'.map _) = (spaced s).data.toList ++ px.data.toList ++ Lib.joinTail [32] ((p' :: q').map _)
        rw [ej, ba_append, ba_append]
        unfold Lib.joinTail
        simp [List.append_assoc]
theorem words_render {m : List (Int × ByteArray)} (hp : ∀ p ∈ m, p.1 = 1 ∧ wordT p.2 = true) (hl : m.length ≤ 60) : renderOk m = true ∧ renderOut m = joinS (m.map Prod.snd) := by
  have hs : sOk start = true := by decide
  obtain ⟨r, r1, r2⟩ := words_aps m start hs rfl hp (by show 0 + 21 * m.length ≤ 2000; omega)
  obtain ⟨h1, h2⟩ := aps_some hs (by omega) r1
  refine ⟨h1, ?_⟩
  unfold renderOut
  rw [h2]
  apply ByteArray.ext
  apply Array.toList_inj.1
  rw [r2]
  unfold joinS
  cases m with
  | nil => rfl
  | cons p q =>
    show (spaced start).data.toList ++ p.2.data.toList ++ Lib.joinTail [32] (q.map _) = Lib.join (p.2.data.toList :: (q.map Prod.snd).map _) [32]
    rw [Lib.join_cons, List.map_map]
    rfl
theorem wds_words {l : List (Int × ByteArray)} (h : ∀ p ∈ l, atomOk p.1 p.2 = true) : ∀ p ∈ l.filter isW, p.1 = 1 ∧ wordT p.2 = true := by
  intro p hp
  obtain ⟨h1, h2⟩ := List.mem_filter.1 hp
  have h3 : p.1 = 1 := by simpa [isW] using h2
  refine ⟨h3, ?_⟩
  have h4 := h p h1
  unfold atomOk at h4
  rw [if_pos (Or.inl h3)] at h4
  exact h4
theorem no_space {x : ByteArray} (h : wordT x = true) : decide (0 ≤ Lib.indexByte x.data.toList 32) = false := by
  rw [decide_eq_false_iff_not]
  intro h0
  obtain ⟨h1, _⟩ := Lib.indexByte_some (l := x.data.toList) (c := 32) (o := (Lib.indexByte x.data.toList 32).toNat) (by omega)
  simp only [wordT, Bool.and_eq_true, allGood, List.all_eq_true] at h
  have := h.1 32 (List.mem_of_getElem? h1)
  exact absurd this (by decide)
theorem joinS_len {ws : List ByteArray} (h : ∀ x ∈ ws, x.size ≤ 20) : (Lib.join (ws.map (·.data.toList)) [32]).length ≤ 21 * ws.length := by
  cases ws with
  | nil => exact Nat.zero_le _
  | cons x r =>
    show (Lib.join (x.data.toList :: r.map (·.data.toList)) [32]).length ≤ _
    rw [Lib.join_length]
    have : ∀ q : List ByteArray, (∀ y ∈ q, y.size ≤ 20) → Lib.lens (q.map (·.data.toList)) ≤ 20 * q.length := by
      intro q
      induction q with
      | nil => intro _; simp [Lib.lens]
      | cons y q ih =>
        intro hq
        have h1 := ih (fun z hz => hq z (List.mem_cons_of_mem _ hz))
        have h2 := hq y List.mem_cons_self
        have h3 : y.data.toList.length = y.size := Array.length_toList
        show Lib.lens (y.data.toList :: q.map _) ≤ 20 * (q.length + 1)
        show y.data.toList.length + Lib.lens (q.map _) ≤ _
        omega
    have h1 := this (x :: r) h
    rw [List.map_cons, List.length_cons] at h1
    rw [List.length_map]
    show 1 * r.length + _ ≤ 21 * (r.length + 1)
    omega

end Pl
end Go.Proofs.Ytkbbcmbeafjpaab
