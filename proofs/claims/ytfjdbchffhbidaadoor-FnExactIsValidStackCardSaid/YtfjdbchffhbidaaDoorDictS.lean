/-
  CONTRACTS: the laws' own functions over dictionaries: szDictionary, toDictionary, eqDictionary.
-/
import Derived.Test.YtfjdbchffhbidaaDoorEntM
import Derived.Test.YtfjdbchffhbidaaDoorFoldS
namespace Go.Proofs.YtfjdbchffhbidaaDoor
open Go.RowKit

/-- no outline and no text of an entry is long -/
def EntsFit (l : List Ent) : Prop := l.length ≤ 1048576 ∧ ∀ p ∈ l, p.1.length ≤ 1048576 ∧ p.2.size ≤ 1048576
theorem EntsFit.at {l : List Ent} (h : EntsFit l) (k : Nat) (hk : k < l.length) : (l[k]).1.length ≤ 1048576 ∧ (l[k]).2.size ≤ 1048576 := h.2 _ (List.getElem_mem hk)

set_option maxHeartbeats 400000 in
theorem szIntS_any (u : Value) (l : List Int) (n : Int) (w : World) (hr : Rows w u l.length 1 (ints l)) (h0 : 0 ≤ n) (h1 : n ≤ 1048576) :
    Calls Tryd.prog 122 #[u, .int .i64 n] w fun e w' => e = .returned (.int .i64 (if n < (l.length : Int) then -1 else n - l.length)) ∧ w = w' := by
  obtain ⟨a, cap, rfl, hnc, hcm, _, _, _⟩ := hr
  unfold maxLen at hcm
  by_cases h : n < (l.length : Int)
  · have E := Lib.hid (show (if n < (l.length : Int) then -1 else n - l.length) = -1 from if_pos h)
    go_enter Tryd.func122, Tryd.ntmps122
    go_wp2
    go_ret
    exact ⟨by first | rfl | exact ret_int E.out.symm, rfl⟩
  · have E := Lib.hid (show (if n < (l.length : Int) then -1 else n - l.length) = n - l.length from if_neg h)
    go_enter Tryd.func122, Tryd.ntmps122
    go_wp2
    go_ret
    exact ⟨by first | rfl | exact ret_int E.out.symm, rfl⟩

set_option maxHeartbeats 800000 in
theorem szEntry_any (u : Value) (l : List Int) (t : ByteArray) (n : Int) (w : World) (hr : Rows w u l.length 1 (ints l)) (ht : t.size ≤ maxLen) (h0 : 0 ≤ n) (h1 : n ≤ 1048576) :
    Calls Tryd.prog 93 #[.agg #[u, .string t], .int .i64 n] w fun e w' => e = .returned (.int .i64 (if n < (l.length : Int) + (t.size : Int) then -1 else n - l.length - t.size)) ∧ Below w.heap.size w w' := by
  have HB := Lib.hid (Joins.below_alloc1 w (.cells #[u, .string t] 130))
  have HR := Lib.hid (hr.keep HB.out)
  obtain ⟨a, cap, rfl, hnc, hcm, _, _, _⟩ := hr
  unfold maxLen at ht hcm
  by_cases h : n < (l.length : Int)
  · have E := Lib.hid (show (if n < (l.length : Int) + (t.size : Int) then -1 else n - l.length - t.size) = -1 from if_pos (by omega))
    go_enter Tryd.func93, Tryd.ntmps93
    go_wp2_with (go_at_call 122; refine (szIntS_any _ l _ _ HR.out h0 h1).mono ?_; rintro e w1 ⟨he, rfl⟩; rw [if_pos h] at he; subst he)
    go_ret
    exact ⟨by first | rfl | exact ret_int E.out.symm, HB.out⟩
  · by_cases h2 : n < (l.length : Int) + (t.size : Int)
    · have E := Lib.hid (show (if n < (l.length : Int) + (t.size : Int) then -1 else n - l.length - t.size) = -1 from if_pos h2)
      go_enter Tryd.func93, Tryd.ntmps93
      go_wp2_with (go_at_call 122; refine (szIntS_any _ l _ _ HR.out h0 h1).mono ?_; rintro e w1 ⟨he, rfl⟩; rw [if_neg h] at he; subst he)
      go_ret
      exact ⟨by first | rfl | exact ret_int E.out.symm, HB.out⟩
    · have E := Lib.hid (show (if n < (l.length : Int) + (t.size : Int) then -1 else n - l.length - t.size) = n - l.length - t.size from if_neg h2)
      go_enter Tryd.func93, Tryd.ntmps93
      go_wp2_with (go_at_call 122; refine (szIntS_any _ l _ _ HR.out h0 h1).mono ?_; rintro e w1 ⟨he, rfl⟩; rw [if_neg h] at he; subst he)
      go_ret
      exact ⟨by first | rfl | exact ret_int E.out.symm, HB.out⟩

/-- what is left behind a look at the entries' sizes -/
def SzLeft (n : Int) (P : Prop) (w : World) (e : Ending) (w' : World) : Prop := (∃ r : Int, e = .returned (.int .i64 r) ∧ -1 ≤ r ∧ r ≤ n ∧ (0 ≤ r → P)) ∧ Below w.heap.size w w'

set_option maxHeartbeats 1600000 in
theorem szEntryS_any (v : Value) (l : List Ent) (n : Int) (w : World) (hr : Ents w v l) (hsz : ∀ q ∈ l, (∀ x ∈ q.1, (Lit.int .i64 x).wf = true) ∧ q.2.size ≤ maxLen) (hn0 : 0 ≤ n) (hn1 : n ≤ 1048576) :
    Calls Tryd.prog 59 #[v, .int .i64 n] w (SzLeft n (EntsFit l) w) := by
  have HE := Lib.hid hr
  have HZ := Lib.hid hsz
  obtain ⟨a, cap, rfl, hnc, hcm⟩ := ent_form hr
  clear hsz hr
  unfold maxLen at hcm
  by_cases h0 : n < (l.length : Int)
  · go_enter Tryd.func59, Tryd.ntmps59
    go_wp2
    go_ret
    exact ⟨⟨-1, rfl, by omega, by omega, fun h => absurd h (by omega)⟩, Below.refl _ _⟩
  · go_enter Tryd.func59, Tryd.ntmps59
    go_wp2
    go_loopw [1, 5] (fun lf i wr => ∃ (k : Nat) (m : Int), k ≤ l.length ∧ i = .int .i64 k ∧ lf = .int .i64 m ∧ 0 ≤ m ∧ m ≤ n - l.length ∧ Hid (∀ p ∈ l.take k, p.1.length ≤ 1048576 ∧ p.2.size ≤ 1048576) ∧ Below w.heap.size w wr) (fun _ i _ => l.length - (intOf i).toNat)
    case atStart => exact ⟨0, _, Nat.zero_le _, rfl, rfl, by omega, by omega, Lib.hid (by simp), Below.refl _ _⟩
    case round =>
      obtain ⟨k, m, hk, rfl, rfl, hm0, hm1, HA, hb⟩ := hrel
      have HB := Lib.hid hb; clear hb
      by_cases hlt : k < l.length
      · obtain ⟨b, off, u, rfl, c1, c2, c3⟩ := ent_at (HE.out.keep HB.out) k hlt
        have hs := (HZ.out _ (List.getElem_mem hlt)).2
        have HN := Lib.hid (take_next (Q := fun p : Ent => p.1.length ≤ 1048576 ∧ p.2.size ≤ 1048576) hlt HA.out)
        have hki : (k : Int) < (l.length : Int) := by omega
        have HR := Lib.hid c3
        generalize l[k] = p at c1 c2 c3 hs HN HR
        obtain ⟨pl, pt⟩ := p
        replace hs : pt.size ≤ maxLen := hs
        obtain ⟨au, cu, rfl, hcu, hmu⟩ := rows_form c3
        clear HA c3
        replace HR : Hid (Rows wr (.slice au pl.length cu) pl.length 1 (ints pl)) := HR
        by_cases hn : m < (pl.length : Int) + (pt.size : Int)
        · go_wp2_with (go_at_call 93; refine (szEntry_any _ pl _ _ _ HR.out hs hm0 (by omega)).mono ?_; rintro e w1 ⟨he, hb1⟩; rw [if_pos hn] at he; subst he)
          go_ret
          exact ⟨⟨-1, rfl, by omega, by omega, fun h => absurd h (by omega)⟩, HB.out.trans (hb1.mono HB.out.size)⟩
        · have HN2 := Lib.hid (HN.out ⟨by show pl.length ≤ 1048576; omega, by show pt.size ≤ 1048576; omega⟩)
          clear HN
          go_wp2_with (go_at_call 93; refine (szEntry_any _ pl _ _ _ HR.out hs hm0 (by omega)).mono ?_; rintro e w1 ⟨he, hb1⟩; rw [if_neg hn] at he; subst he)
          go_roundw
          case rel => exact ⟨k + 1, m - pl.length - pt.size, by omega, by go_num, rfl, by omega, by omega, HN2, HB.out.trans (hb1.mono HB.out.size)⟩
          case measure => simp [intOf]; omega
      · obtain rfl : k = l.length := by omega
        have HF : Hid (EntsFit l) := Lib.hid ⟨by omega, by have := HA.out; rwa [List.take_of_length_le (Nat.le_refl _)] at this⟩
        clear HA
        go_wp2
        go_ret
        exact ⟨⟨m, rfl, by omega, by omega, fun _ => HF.out⟩, HB.out⟩

set_option maxHeartbeats 400000 in
theorem szDictionary_any (v : Value) (l : List Ent) (n : Int) (w : World) (hr : Ents w v l) (hsz : ∀ q ∈ l, (∀ x ∈ q.1, (Lit.int .i64 x).wf = true) ∧ q.2.size ≤ maxLen) (hn0 : 0 ≤ n) (hn1 : n ≤ 1048576) :
    Calls Tryd.prog 22 #[.agg #[v], .int .i64 n] w (SzLeft n (EntsFit l) w) := by
  have HB := Lib.hid (Joins.below_alloc1 w (.cells #[v] 43))
  have HS := Lib.hid (szEntryS_any v l n _ (hr.keep HB.out) hsz hn0 hn1)
  clear hsz hr
  go_enter Tryd.func22, Tryd.ntmps22
  go_upto_region 2 with (go_at_call 59; refine HS.out.mono ?_; rintro e w1 ⟨⟨r, rfl, h1, h2, h3⟩, hb1⟩; have HP := Lib.hid h3; have HB1 := Lib.hid (HB.out.trans (hb1.mono HB.out.size)); clear h3 hb1)
  by_cases hr0 : r < 0
  · go_wp2
    go_ret
    exact ⟨⟨-1, rfl, by omega, by omega, fun h => absurd h (by omega)⟩, HB1.out⟩
  · go_wp2
    go_ret
    exact ⟨⟨r, rfl, by omega, by omega, HP.out⟩, HB1.out⟩

end Go.Proofs.YtfjdbchffhbidaaDoor
