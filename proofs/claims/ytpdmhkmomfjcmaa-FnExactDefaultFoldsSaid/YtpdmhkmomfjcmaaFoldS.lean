/-
  CONTRACTS: the laws' own functions over slices of folds: szFoldS, toFoldS, eqFoldS.
-/
import Derived.Test.YtpdmhkmomfjcmaaIntS
import Derived.BigRegion
import Derived.Deep.DeepCutAuto
import Derived.Deep.RegionHeld3
import Derived.Lib.SmallJoins
namespace Go.Proofs.Ytpdmhkmomfjcmaa
open Go.RowKit

/-- the cells of a list of folds -/
def folds : List (Int × ByteArray) → List Value
  | [] => []
  | p :: r => .int .i64 p.1 :: .string p.2 :: folds r
theorem folds_length (l : List (Int × ByteArray)) : (folds l).length = l.length * 2 := by
  induction l with
  | nil => rfl
  | cons p r ih => simp only [folds, List.length_cons, ih]; omega
theorem folds_at (l : List (Int × ByteArray)) : ∀ (k : Nat) (h : k < l.length), (folds l)[k * 2]? = some (.int .i64 l[k].1) ∧ (folds l)[k * 2 + 1]? = some (.string l[k].2) := by
  induction l with
  | nil => intro k h; simp at h
  | cons p r ih =>
    intro k h
    cases k with
    | zero => exact ⟨rfl, rfl⟩
    | succ k =>
      have hk : k < r.length := by simpa using h
      have := ih k hk
      rw [show (k + 1) * 2 = k * 2 + 1 + 1 by omega]
      simpa [folds] using this

theorem fold_cells {w : World} {a : Option Addr} {l : List (Int × ByteArray)} (hc : CellsAt w a (folds l)) (k : Nat) (h : k < l.length) :
    ∃ b off, a = some ⟨b, off, none⟩ ∧ w.cell? ⟨b, off + k * 2, none⟩ = some (.int .i64 l[k].1) ∧ w.cell? ⟨b, off + k * 2 + 1, none⟩ = some (.string l[k].2) := by
  obtain ⟨b, off, h1, h2⟩ := hc _ _ (folds_at l k h).1
  obtain ⟨b', off', h3, h4⟩ := hc _ _ (folds_at l k h).2
  rw [h1] at h3
  cases h3
  exact ⟨b, off, h1, h2, h4⟩
theorem keepc {w w' : World} (hb : Below w.heap.size w w') {b o : Nat} {u : Value} (h : w.cell? ⟨b, o, none⟩ = some u) : w'.cell? ⟨b, o, none⟩ = some u := by
  rw [hb.cell (World.block_lt_of_cell? _ _ h)]; exact h

/-- no text of a fold is long -/
def FoldsFit (l : List (Int × ByteArray)) : Prop := l.length ≤ 1048576 ∧ ∀ p ∈ l, p.2.size ≤ 1048576
theorem fits_at {l : List (Int × ByteArray)} (h : FoldsFit l) (k : Nat) (hk : k < l.length) : (l[k]).2.size ≤ 1048576 := h.2 _ (List.getElem_mem hk)

theorem take_next {α : Type} {Q : α → Prop} {l : List α} {k : Nat} (h : k < l.length) (ha : ∀ p ∈ l.take k, Q p) (hq : Q l[k]) : ∀ p ∈ l.take (k + 1), Q p := by
  intro p hp
  rw [List.take_add_one, List.getElem?_eq_getElem h, List.mem_append] at hp
  rcases hp with hp | hp
  · exact ha p hp
  · simp only [Option.toList_some, List.mem_singleton] at hp
    subst hp; exact hq

theorem Try.infoFold : (Try.prog.info? 79).map (fun i => (i.zero, i.size, i.bytes)) = some (some (.agg #[.int .i64 0, .string ⟨#[]⟩]), 2, 24) := by kernel_rfl

theorem half_set2 (l : List (Int × ByteArray)) (zs : List Value) (k : Nat) (h : (folds l).length = zs.length) (hk : k < l.length) :
    ((half (folds l) zs (k * 2)).set (k * 2) (.int .i64 l[k].1)).set (k * 2 + 1) (.string l[k].2) = half (folds l) zs ((k + 1) * 2) := by
  rw [half_set _ _ _ _ h (folds_at l k hk).1, half_set _ _ _ _ h (folds_at l k hk).2, show (k + 1) * 2 = k * 2 + 1 + 1 by omega]

set_option maxHeartbeats 400000 in
theorem eqFold_same (k : Int) (t : ByteArray) (w : World) :
    Calls Try.prog 80 #[.agg #[.int .i64 k, .string t], .agg #[.int .i64 k, .string t]] w fun e w' => e = .returned (.bool true) ∧ Below w.heap.size w w' := by
  have HB := Lib.hid (Joins.below_alloc2 w (.cells #[.int .i64 k, .string t] 79) (.cells #[.int .i64 k, .string t] 79))
  go_enter Try.func80, Try.ntmps80
  go_wp2
  all_goals go_ret
  all_goals exact ⟨rfl, HB.out⟩

theorem below_drew1 {B : Nat} {w w' : World} (h : Below B w w') : Below B w w'.drew := h.trans (Joins.below_draws _ _ 1)

set_option maxHeartbeats 1600000 in
theorem eqFoldS_same (v v' : Value) (l : List (Int × ByteArray)) (w : World) (hr : Rows w v l.length 2 (folds l)) (hr' : Rows w v' l.length 2 (folds l)) (hl : l.length ≤ 1048576) :
    Calls Try.prog 46 #[v, v'] w fun e w' => e = .returned (.bool true) ∧ Below w.heap.size w w' := by
  obtain ⟨a, cap, rfl, _, _, _, _, hcells⟩ := hr
  obtain ⟨a', cap', rfl, _, _, _, _, hcells'⟩ := hr'
  have HC := Lib.hid hcells; have HC' := Lib.hid hcells'
  clear hcells hcells'
  go_enter Try.func46, Try.ntmps46
  go_wp2
  go_loopw [5] (fun i wr => ∃ k : Nat, k ≤ l.length ∧ i = .int .i64 k ∧ Below w.heap.size w wr) (fun i _ => l.length - (intOf i).toNat)
  case atStart => exact ⟨0, Nat.zero_le _, rfl, Below.refl _ _⟩
  case round =>
    obtain ⟨k, hk, rfl, hb⟩ := hrel
    have HB := Lib.hid hb; clear hb
    by_cases hlt : k < l.length
    · obtain ⟨b, off, rfl, c1, c2⟩ := fold_cells (HC.out.keep HB.out) k hlt
      obtain ⟨b', off', rfl, c3, c4⟩ := fold_cells (HC'.out.keep HB.out) k hlt
      have hki : (k : Int) < (l.length : Int) := by omega
      have hk0 : (0 : Int) ≤ (k : Int) := by omega
      generalize l[k] = p at c1 c2 c3 c4
      obtain ⟨pk, pt⟩ := p
      go_upto_region 6 with fail
      go_region_held3 (fun w' => w'.cell? ⟨b, off + k * 2, none⟩ = some (.int .i64 pk) ∧ w'.cell? ⟨b, off + k * 2 + 1, none⟩ = some (.string pt) ∧ w'.cell? ⟨b', off' + k * 2, none⟩ = some (.int .i64 pk) ∧ w'.cell? ⟨b', off' + k * 2 + 1, none⟩ = some (.string pt)) (first | exact ⟨e1, e2, e3, e4⟩ | exact ⟨c1, c2, c3, c4⟩) (first
        | (go_at_call 80; refine (eqFold_same _ _ _).mono ?_; rintro e w1 ⟨rfl, hb1⟩; have e1 := keepc hb1 c1; have e2 := keepc hb1 c2; have e3 := keepc hb1 c3; have e4 := keepc hb1 c4))
      go_wp2
      go_roundw
      case rel => exact ⟨k + 1, by omega, by go_num, (below_drew1 HB.out).trans (hb1.mono HB.out.size)⟩
      case measure => simp [intOf]; omega
    · go_wp2
      go_ret
      exact ⟨rfl, HB.out⟩

end Go.Proofs.Ytpdmhkmomfjcmaa
