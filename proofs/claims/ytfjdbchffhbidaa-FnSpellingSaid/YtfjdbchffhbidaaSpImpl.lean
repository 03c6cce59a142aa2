/-
  CONTRACTS: impl.SplitSuffix.
-/
import Derived.Test.YtfjdbchffhbidaaFilterS
import Derived.Test.YtfjdbchffhbidaaSpSplit
import Derived.Lib.OwnBridge
import Derived.Sort.OwnSorted
set_option linter.unusedSimpArgs false
namespace Go.Proofs.Ytfjdbchffhbidaa
open Go.RowKit

/-- the texts in order -/
def Pl.sortB (l : List ByteArray) : List ByteArray := ((l.map (·.data.toList)).mergeSort fun x y => decide (x ≤ y)).map fun b => ⟨b.toArray⟩
/-- each once -/
def Pl.compB (l : List ByteArray) : List ByteArray := (Lib.compact (l.map (·.data.toList))).map fun b => ⟨b.toArray⟩
theorem strs_enc (l : List ByteArray) : strs l = (l.map (·.data.toList)).map encStr := (Lib.map_encStr l).symm
theorem enc_strs (l : List (List UInt8)) : l.map encStr = strs (l.map fun b => ⟨b.toArray⟩) := by
  unfold strs
  rw [List.map_map]
  rfl
theorem Pl.sortB_len (l : List ByteArray) : (Pl.sortB l).length = l.length := by unfold Pl.sortB; rw [List.length_map, List.length_mergeSort, List.length_map]
theorem Pl.compB_len (l : List ByteArray) : (Pl.compB l).length = (Lib.compact (l.map (·.data.toList))).length := by unfold Pl.compB; rw [List.length_map]
theorem Pl.data_mk (l : List (List UInt8)) : (l.map fun b => (⟨b.toArray⟩ : ByteArray)).map (·.data.toList) = l := by
  rw [List.map_map]
  exact List.map_id _
theorem Pl.sorted_mem (l : List ByteArray) : Pl.Asc (Pl.compB (Pl.sortB l)) ∧ ∀ x, x ∈ Pl.compB (Pl.sortB l) ↔ x ∈ l := by
  have hs := List.pairwise_mergeSort (le := fun (x y : List UInt8) => decide (x ≤ y)) (fun a b c h1 h2 => by simp only [decide_eq_true_eq] at *; exact List.le_trans h1 h2) (fun a b => by simp only [Bool.or_eq_true, decide_eq_true_eq]; exact List.le_total a b) (l.map (·.data.toList))
  have hd : (Pl.sortB l).map (·.data.toList) = (l.map (·.data.toList)).mergeSort fun x y => decide (x ≤ y) := Pl.data_mk _
  obtain ⟨h1, h2⟩ := Pl.compact_asc (l := (Pl.sortB l).map (·.data.toList)) (by rw [hd]; exact hs.imp fun h => by simpa using h)
  constructor
  · unfold Pl.Asc Pl.compB
    rw [List.pairwise_map]
    refine h1.imp fun h => ?_
    simpa [Pl.ltB] using h
  · intro x
    have hx : x.data.toList ∈ Lib.compact ((Pl.sortB l).map (·.data.toList)) ↔ x ∈ Pl.compB (Pl.sortB l) := by
      unfold Pl.compB
      rw [List.mem_map]
      constructor
      · intro h; exact ⟨_, h, rfl⟩
      · rintro ⟨b, hb, rfl⟩; exact hb
    rw [← hx, h2, hd, List.mem_mergeSort, List.mem_map]
    constructor
    · rintro ⟨y, hy, e⟩
      rw [← Pl.ba_ext e]; exact hy
    · intro h; exact ⟨x, h, rfl⟩

theorem sort_own (g cap base : Nat) (l : List ByteArray) (w : World) (h : w.ownsRow base 9 1 (.slice (some ⟨g, 0, none⟩) l.length cap) l.length (strs l)) (hl : l.length ≤ 1000) :
    Calls Try.prog 39 #[.slice (some ⟨g, 0, none⟩) l.length cap] w fun e w' => e = .returned (.tuple #[]) ∧ w'.ownsRow base 9 1 (.slice (some ⟨g, 0, none⟩) l.length cap) l.length (strs (Pl.sortB l)) ∧ w.grownBy w' (some g) := by
  have h0 := h
  rw [strs_enc] at h
  obtain ⟨g', cap', e, hb, hg, hn, hm, hz, hH⟩ := Lib.holds_of_ownsRow h (by simp)
  cases e
  have hc := Try.slices_Sort_string g 0 cap (l.map (·.data.toList)) w hH hg (by rw [List.length_map]; omega)
  rw [List.length_map] at hc
  refine hc.mono ?_
  rintro e w' ⟨rfl, n, os, rfl⟩
  refine ⟨rfl, ?_, grownBy_sorted _⟩
  rcases h.2 with ⟨h1, _⟩ | ⟨g', cap', cur, h1, h2, h3, h4, h5, h6, h7⟩
  · cases h1
  · cases h1
    have := ownsRow_sorted (n := n) (os := os) (ss := l.map (·.data.toList)) (ts := (l.map (·.data.toList)).mergeSort fun x y => decide (x ≤ y)) (by rw [List.length_mergeSort]) h2 h3 (by rw [List.length_map]; exact h4) h5 h6
    rw [List.length_map, enc_strs] at this
    exact this
theorem compact_own (g cap base : Nat) (l : List ByteArray) (w : World) (h : w.ownsRow base 9 1 (.slice (some ⟨g, 0, none⟩) l.length cap) l.length (strs l)) (hl : l.length ≤ 1000) :
    Calls Try.prog 41 #[.slice (some ⟨g, 0, none⟩) l.length cap] w fun e w' => e = .returned (.slice (some ⟨g, 0, none⟩) (Pl.compB l).length cap) ∧ w'.ownsRow base 9 1 (.slice (some ⟨g, 0, none⟩) (Pl.compB l).length cap) (Pl.compB l).length (strs (Pl.compB l)) ∧ w.grownBy w' (some g) := by
  rw [strs_enc] at h
  obtain ⟨g', cap', e, hb, hg, hn, hm, hz, hH⟩ := Lib.holds_of_ownsRow h (by simp)
  cases e
  have hle : (Lib.compact (l.map (·.data.toList))).length ≤ l.length := by
    have := Lib.compact_length_le (l.map (·.data.toList))
    rwa [List.length_map] at this
  have hc := Try.slices_Compact_string g 0 cap (l.map (·.data.toList)) w hH (by rw [List.length_map]; omega) (by rw [List.length_map]; exact hn)
  rw [List.length_map, ← Pl.compB_len] at hc
  refine hc.mono ?_
  rintro e w' ⟨rfl, q, rfl⟩
  refine ⟨rfl, ?_, ?_⟩
  · have := Lib.ownsRow_putRow (q := q) (k := (Pl.compB l).length) (ys := Lib.compact (l.map (·.data.toList)) ++ List.replicate (l.length - (Pl.compB l).length) []) h (by rw [List.length_append, List.length_replicate, Pl.compB_len]; omega) (by rw [Pl.compB_len]; exact hle)
    rw [List.take_left' (Pl.compB_len l).symm, enc_strs] at this
    exact this
  · have := grownBy_sorted (w := w) (g := g) (n := q) (os := #[]) (Lib.compact (l.map (fun b : ByteArray => b.data.toList)) ++ List.replicate (l.length - (Pl.compB l).length) []).toArray
    have e : ∀ X : World, Sort.grow X #[] = X := fun X => by cases X; simp [Sort.grow]
    rw [e] at this
    exact this

theorem Pl.trim_yes {s p : ByteArray} (h : Pl.endsB s p = true) : (⟨(Lib.trimSuffix s.data.toList p.data.toList).toArray⟩ : ByteArray) = Pl.chop s p.size := by
  apply Pl.ba_ext
  have h' : Lib.hasSuffix s.data.toList p.data.toList = true := h
  rw [Pl.chop_data, Pl.ba_size, Pl.ba_size]
  show Lib.trimSuffix s.data.toList p.data.toList = _
  unfold Lib.trimSuffix
  rw [if_pos h']
theorem Pl.trim_no {s p : ByteArray} (h : Pl.endsB s p = false) : (⟨(Lib.trimSuffix s.data.toList p.data.toList).toArray⟩ : ByteArray) = s := by
  apply Pl.ba_ext
  have h' : Lib.hasSuffix s.data.toList p.data.toList = false := h
  show Lib.trimSuffix s.data.toList p.data.toList = _
  unfold Lib.trimSuffix
  rw [if_neg (by rw [h']; decide)]
theorem cutSuffix_yes {s p : ByteArray} (w : World) (hs : s.size ≤ maxLen) (h : Pl.endsB s p = true) :
    Calls Try.prog 38 #[.string s, .string p] w fun e w' => e = .returned (.tuple #[.string (Pl.chop s p.size), .bool true]) ∧ w = w' := by
  refine (Try.strings_CutSuffix s p w (by unfold maxLen at hs; exact hs)).mono ?_
  rintro e w' ⟨rfl, rfl⟩
  rw [Pl.trim_yes h, show Lib.hasSuffix s.data.toList p.data.toList = true from h]
  exact ⟨rfl, rfl⟩
theorem cutSuffix_no {s p : ByteArray} (w : World) (hs : s.size ≤ maxLen) (h : Pl.endsB s p = false) :
    Calls Try.prog 38 #[.string s, .string p] w fun e w' => e = .returned (.tuple #[.string s, .bool false]) ∧ w = w' := by
  refine (Try.strings_CutSuffix s p w (by unfold maxLen at hs; exact hs)).mono ?_
  rintro e w' ⟨rfl, rfl⟩
  rw [Pl.trim_no h, show Lib.hasSuffix s.data.toList p.data.toList = false from h]
  exact ⟨rfl, rfl⟩

theorem Pl.splits_join {s t x : ByteArray} (h1 : Pl.isWord s = true) (h2 : Pl.isWord t = true) : (Pl.joinOk x t && ((Pl.joinOut x t).toList == s.toList)) = Pl.splits s t x := by
  have hz := Pl.isWord_size h1
  unfold Pl.splits
  cases h3 : Pl.isWord x
  · rw [(Pl.join_bad (s := x) (t := t) (by rw [h3]; rfl)).2]; rfl
  · by_cases hj : (Pl.join x t).size ≤ 24
    · obtain ⟨e1, e2⟩ := Pl.join_yes h3 h2 rfl hj
      rw [e1, e2]
    · obtain ⟨e1, e2⟩ := Pl.join_no (t := t) (s := x) rfl hj
      rw [e2, Bool.false_and]
      have : ((Pl.join x t).toList == s.toList) = false := by
        rw [beq_eq_false_iff_ne, Pl.ba_toList, Pl.ba_toList]
        intro e
        have := Pl.ba_ext e
        rw [this] at hj; omega
      rw [this]; rfl

set_option maxHeartbeats 400000 in
theorem split_fn (s t x : ByteArray) (p q : Nat) (w : World) (h1 : Pl.isWord s = true) (h2 : Pl.isWord t = true) (hx : x.size ≤ maxLen) (hp : w.cell? ⟨p, 0, none⟩ = some (.string t)) (hq : w.cell? ⟨q, 0, none⟩ = some (.string s)) :
    Calls Try.prog 42 #[.string x, .pointer (some ⟨p, 0, none⟩), .pointer (some ⟨q, 0, none⟩)] w fun e w' => e = .returned (.bool (Pl.splits s t x)) ∧ Below w.heap.size w w' := by
  have z := Pl.isWord_size h2
  have ht : t.size ≤ maxLen := by unfold maxLen; omega
  have E := Lib.hid (Pl.splits_join (x := x) h1 h2)
  have HJ := Lib.hid (JoinSuffix_any x t w hx ht)
  generalize Pl.joinOk x t = ok at E HJ
  generalize Pl.joinOut x t = y at E HJ
  go_enter Try.func42, Try.ntmps42
  cases ok
  · go_wp2_with (go_at_call 13; (with_reducible refine HJ.out.mono ?_); rintro e w1 ⟨rfl, hb⟩; have B1 := Lib.hid hb; have hq1 := keepc hb hq; clear hb)
    go_ret
    exact ⟨ret_bool (by rw [← E.out]; rfl), B1.out⟩
  · go_wp2_with (go_at_call 13; (with_reducible refine HJ.out.mono ?_); rintro e w1 ⟨rfl, hb⟩; have B1 := Lib.hid hb; have hq1 := keepc hb hq; clear hb)
    go_ret
    exact ⟨ret_bool (by rw [← E.out]; rfl), B1.out⟩

end Go.Proofs.Ytfjdbchffhbidaa
