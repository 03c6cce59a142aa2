/-
  CONTRACTS: the laws' own look at the size of a stack of layers.
-/
import Derived.Test.YtdidgaibgkdjoaaGreatDoorBasA
import Derived.Test.YtdidgaibgkdjoaaGreatDoorBasB
namespace Go.Proofs.YtdidgaibgkdjoaaGreatDoor
open Go.RowKit

/-- every layer's dictionary fits -/
def LaysFit (l : List Lay) : Prop := l.length ≤ 1048576 ∧ ∀ p ∈ l, EntsFit p.1
theorem LaysFit.at {l : List Lay} (h : LaysFit l) (k : Nat) (hk : k < l.length) : EntsFit (l[k]).1 := h.2 _ (List.getElem_mem hk)

set_option maxHeartbeats 800000 in
theorem szLayer_any (u : Value) (l : List Ent) (y : Bool) (n : Int) (w : World) (hr : Ents w u l) (hsz : ∀ q ∈ l, EntWf q) (h0 : 0 ≤ n) (h1 : n ≤ 1048576) :
    Calls Tryz.prog 102 #[.agg #[u, .bool y], .int .i64 n] w (SzLeft n (EntsFit l) w) := by
  have HB := Lib.hid (Joins.below_alloc1 w (.cells #[u, .bool y] 137))
  have HS := Lib.hid (szDictionary_any u l n _ (hr.keep HB.out) hsz h0 h1)
  obtain ⟨a, cap, rfl, _, _⟩ := ent_form hr
  clear hsz hr
  go_enter Tryz.func102, Tryz.ntmps102
  go_upto_region 2 with (go_at_call 31; (with_reducible refine HS.out.mono ?_); rintro e w1 ⟨⟨r, rfl, h1, h2, h3⟩, hb1⟩; have HP := Lib.hid h3; have HB1 := Lib.hid (HB.out.trans (hb1.mono HB.out.size)); clear h3 hb1)
  by_cases hr0 : r < 0
  · go_wp2
    go_ret
    exact ⟨⟨-1, rfl, by omega, by omega, fun h => absurd h (by omega)⟩, HB1.out⟩
  · go_wp2
    go_ret
    exact ⟨⟨r, rfl, by omega, by omega, HP.out⟩, HB1.out⟩

set_option maxHeartbeats 1600000 in
theorem szLayerS_any (v : Value) (l : List Lay) (n : Int) (w : World) (hr : Lays w v l) (hsz : ∀ q ∈ l, ∀ p ∈ q.1, EntWf p) (hn0 : 0 ≤ n) (hn1 : n ≤ 1048576) :
    Calls Tryz.prog 53 #[v, .int .i64 n] w (SzLeft n (LaysFit l) w) := by
  have HE := Lib.hid hr
  have HZ := Lib.hid hsz
  obtain ⟨a, cap, rfl, hnc, hcm⟩ := lay_form hr
  clear hsz hr
  unfold maxLen at hcm
  by_cases h0 : n < (l.length : Int)
  · go_enter Tryz.func53, Tryz.ntmps53
    go_wp2
    go_ret
    exact ⟨⟨-1, rfl, by omega, by omega, fun h => absurd h (by omega)⟩, Below.refl _ _⟩
  · go_enter Tryz.func53, Tryz.ntmps53
    go_wp2
    go_loopw [1, 5] (fun lf i wr => ∃ (k : Nat) (m : Int), k ≤ l.length ∧ i = .int .i64 k ∧ lf = .int .i64 m ∧ 0 ≤ m ∧ m ≤ n - l.length ∧ Hid (∀ p ∈ l.take k, EntsFit p.1) ∧ Below w.heap.size w wr) (fun _ i _ => l.length - (intOf i).toNat)
    case atStart => exact ⟨0, _, Nat.zero_le _, rfl, rfl, by omega, by omega, Lib.hid (by simp), Below.refl _ _⟩
    case round =>
      obtain ⟨k, m, hk, rfl, rfl, hm0, hm1, HA, hb⟩ := hrel
      have HB := Lib.hid hb; clear hb
      by_cases hlt : k < l.length
      · obtain ⟨b, off, u, rfl, c1, c2, c3⟩ := lay_at (HE.out.keep HB.out) k hlt
        have hs := HZ.out _ (List.getElem_mem hlt)
        have HN := Lib.hid (take_next (Q := fun p : Lay => EntsFit p.1) hlt HA.out)
        have hki : (k : Int) < (l.length : Int) := by omega
        have hk0 : (0 : Int) ≤ (k : Int) := by omega
        generalize l[k] = p at c1 c2 c3 hs HN
        obtain ⟨pl, py⟩ := p
        have HS := Lib.hid (szLayer_any u pl py m wr c3 hs hm0 (by omega))
        replace c2 : wr.cell? ⟨b, off + k * 2 + 1, none⟩ = some (.bool py) := c2
        obtain ⟨au, cu, rfl, _, _⟩ := ent_form c3
        clear HA c3 hs
        go_upto_region 8 with (go_at_call 102; (with_reducible refine HS.out.mono ?_); rintro e w1 ⟨⟨r, rfl, h1, h2, h3⟩, hb1⟩; have HP := Lib.hid h3; have HB1 := Lib.hid (HB.out.trans (hb1.mono HB.out.size)); clear h3 hb1)
        by_cases hr0 : r < 0
        · go_wp2
          go_ret
          exact ⟨⟨-1, rfl, by omega, by omega, fun h => absurd h (by omega)⟩, HB1.out⟩
        · have HN2 := Lib.hid (HN.out (HP.out (by omega)))
          clear HN HP
          go_wp2
          go_roundw
          case rel => exact ⟨k + 1, r, by omega, by go_num, rfl, by omega, by omega, HN2, HB1.out⟩
          case measure => simp [intOf]; omega
      · obtain rfl : k = l.length := by omega
        have HF : Hid (LaysFit l) := Lib.hid ⟨by omega, by have := HA.out; rwa [List.take_of_length_le (Nat.le_refl _)] at this⟩
        clear HA
        go_wp2
        go_ret
        exact ⟨⟨m, rfl, by omega, by omega, fun _ => HF.out⟩, HB.out⟩

set_option maxHeartbeats 400000 in
theorem szStack_any (v : Value) (l : List Lay) (n : Int) (w : World) (hr : Lays w v l) (hsz : ∀ q ∈ l, ∀ p ∈ q.1, EntWf p) (hn0 : 0 ≤ n) (hn1 : n ≤ 1048576) :
    Calls Tryz.prog 16 #[.agg #[v], .int .i64 n] w (SzLeft n (LaysFit l) w) := by
  have HB := Lib.hid (Joins.below_alloc1 w (.cells #[v] 42))
  have HS := Lib.hid (szLayerS_any v l n _ (hr.keep HB.out) hsz hn0 hn1)
  obtain ⟨a, cap, rfl, _, _⟩ := lay_form hr
  clear hsz hr
  go_enter Tryz.func16, Tryz.ntmps16
  go_upto_region 2 with (go_at_call 53; (with_reducible refine HS.out.mono ?_); rintro e w1 ⟨⟨r, rfl, h1, h2, h3⟩, hb1⟩; have HP := Lib.hid h3; have HB1 := Lib.hid (HB.out.trans (hb1.mono HB.out.size)); clear h3 hb1)
  by_cases hr0 : r < 0
  · go_wp2
    go_ret
    exact ⟨⟨-1, rfl, by omega, by omega, fun h => absurd h (by omega)⟩, HB1.out⟩
  · go_wp2
    go_ret
    exact ⟨⟨r, rfl, by omega, by omega, HP.out⟩, HB1.out⟩

end Go.Proofs.YtdidgaibgkdjoaaGreatDoor
