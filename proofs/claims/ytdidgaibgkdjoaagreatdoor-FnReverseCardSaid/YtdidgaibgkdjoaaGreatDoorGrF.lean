/-
  CONTRACTS: a search among folds, and FoldOverrides of the program.
  CONTRACT: FoldOverrides of the program.
  CONTRACT: FoldOverrides of the reference.
  CONTRACTS: ReverseLookup of the program and of the reference.
  PLAIN: in a valid dictionary every entry is found by its own outline; the longest outline.
  CONTRACTS: LongestOutline of the program and of the reference.
-/
import Derived.Test.YtdidgaibgkdjoaaGreatDoorGrE
import Derived.Test.YtdidgaibgkdjoaaGreatDoorLookF
import Derived.Test.YtdidgaibgkdjoaaGreatDoorLookS
import Derived.Test.YtdidgaibgkdjoaaGreatDoorDrawPutR
import Derived.Test.YtdidgaibgkdjoaaGreatDoorBasD
namespace Go.Proofs.YtdidgaibgkdjoaaGreatDoor
open Go.RowKit

end Go.Proofs.YtdidgaibgkdjoaaGreatDoor

namespace Go.Proofs.YtdidgaibgkdjoaaGreatDoor
open Go.RowKit

theorem fo_no {l : List Ent} {F : List Fo} {k : Nat} (hk : k < l.length) (h : foAny l F (l[k]).1 = false) : foTo l F (k + 1) = foTo l F k := by
  rw [fo_next hk, h, if_neg (by decide), List.append_nil]
theorem fo_yes {l : List Ent} {F : List Fo} {k : Nat} (hk : k < l.length) (h : foAny l F (l[k]).1 = true) : foTo l F (k + 1) = foTo l F k ++ [(l[k]).1] := by
  rw [fo_next hk, h, if_pos rfl]
theorem fo_zero (l : List Ent) (F : List Fo) : foTo l F 0 = [] := rfl
theorem ent_outline {l : List Ent} (h : Pl.dictOk l = true) {k : Nat} (hk : k < l.length) : Pl.outlineB (l[k]).1 = true := by
  have := Pl.dict_ent h hk
  unfold Pl.entOk at this
  rw [Bool.and_eq_true] at this
  exact this.1
theorem folds_mem_ok {F : List Fo} (h : Pl.foldsOk F = true) {k : Int} {t : ByteArray} (hm : (k, t) ∈ F) : Pl.foldB k t = true := by
  obtain ⟨i, hi, e⟩ := List.getElem_of_mem hm
  have := folds_at_ok h hi
  rw [e] at this
  exact this

end Go.Proofs.YtdidgaibgkdjoaaGreatDoor

namespace Go.Proofs.YtdidgaibgkdjoaaGreatDoor
open Go.RowKit

theorem any_next {F : List Fo} {p : Fo → Bool} {m : Nat} (h : m < F.length) : (F.take (m + 1)).any p = ((F.take m).any p || p F[m]) := by
  rw [List.take_add_one, List.getElem?_eq_getElem h, List.any_append]
  simp
theorem Inner.notRow {w : World} {lo hi sz p : Nat} {xs : List Value} {L : List (List Int)} {U : Nat → Value} (h : Inner w lo hi xs sz p L U) : ∀ j, j < L.length → (U j).ownBlock = none ∨ (U j).ownBlock ≠ some w.heap.size := fun j hj => own_not (h.1 j hj).2.1 (Nat.le_refl _)

end Go.Proofs.YtdidgaibgkdjoaaGreatDoor

namespace Go.Proofs.YtdidgaibgkdjoaaGreatDoor
open Go.RowKit

/-- the outlines of a text -/
def rvTo (l : List Ent) (t : ByteArray) (k : Nat) : List (List Int) := ((l.take k).filter fun p => decide (p.2 = t)).map Prod.fst
def rvOut (l : List Ent) (t : ByteArray) : List (List Int) := if Pl.dictOk l = true then rvTo l t l.length else []
theorem rv_next {l : List Ent} {t : ByteArray} {k : Nat} (hk : k < l.length) : rvTo l t (k + 1) = rvTo l t k ++ (if (l[k]).2 = t then [(l[k]).1] else []) := by
  unfold rvTo
  rw [List.take_add_one, List.getElem?_eq_getElem hk, List.filter_append, List.map_append]
  congr 1
  simp only [Option.toList_some, List.filter_cons, List.filter_nil, decide_eq_true_iff]
  split <;> simp
theorem rv_no {l : List Ent} {t : ByteArray} {k : Nat} (hk : k < l.length) (h : (l[k]).2 ≠ t) : rvTo l t (k + 1) = rvTo l t k := by rw [rv_next hk, if_neg h, List.append_nil]
theorem rv_yes {l : List Ent} {t : ByteArray} {k : Nat} (hk : k < l.length) (h : (l[k]).2 = t) : rvTo l t (k + 1) = rvTo l t k ++ [(l[k]).1] := by rw [rv_next hk, if_pos h]
theorem rv_len (l : List Ent) (t : ByteArray) (k : Nat) : (rvTo l t k).length ≤ l.length := by
  unfold rvTo
  rw [List.length_map]
  exact Nat.le_trans (List.length_filter_le _ _) (by rw [List.length_take]; omega)
theorem text_neL {a b : ByteArray} (h : a ≠ b) : (a.toList == b.toList) = false := by
  rw [beq_eq_false_iff_ne]
  intro e
  exact h (Pl.ba_ext (by rw [← Pl.ba_toList, ← Pl.ba_toList]; exact e))

set_option maxRecDepth 20000 in
set_option maxHeartbeats 3200000 in
theorem ReverseLookup_any (v : Value) (l : List Ent) (t : ByteArray) (w : World) (hr : Ents w v l) (hl : l.length ≤ 1048576) (hs : ∀ p ∈ l, p.1.length ≤ 1048576 ∧ p.2.size ≤ 1048576) (hm : ∃ m, w.cell? ⟨0, 0, none⟩ = some (.int .i64 m)) :
    Calls Tryz.prog 10 #[.agg #[v], .string t] w (RetII w (rvOut l t) (Pl.dictOk l)) := by
  have HB0 := Lib.hid (Joins.below_alloc1 w (.cells #[v] 26))
  have HM0 := Lib.hid (max_keepT hm HB0.out)
  have HE := Lib.hid (hr.keep HB0.out)
  have HV := Lib.hid (IsValidDictionary_any v l _ HE.out hl hs HM0.out)
  have HF1 := Lib.hid (fun p hp => (hs p hp).1)
  have E := Lib.hid (show rvOut l t = if Pl.dictOk l = true then rvTo l t l.length else [] from rfl)
  obtain ⟨a, cap, rfl, _, _⟩ := ent_form hr
  have HC := Lib.hid (show (w.alloc (.cells #[.slice a l.length cap] 26)).cell? ⟨w.heap.size, 0, none⟩ = some (.slice a l.length cap) by simp [go_sem])
  clear hr hs hm
  cases hx : Pl.dictOk l
  · rw [hx] at HV
    have E1 : rvOut l t = [] := by rw [E.out, hx]; rfl
    rw [E1]
    clear E E1 hx
    go_enter Tryz.func10, Tryz.ntmps10
    go_wp2_with (go_at_call 47; (with_reducible refine HV.out.mono ?_); rintro e w1 ⟨rfl, hb1⟩; have HB1 := Lib.hid (HB0.out.trans (hb1.mono HB0.out.size)); clear hb1)
    go_ret2
    exact ⟨_, _, rfl, OwnNest.nil _ _ _ _ _, HB1.out⟩
  rw [hx] at HV
  have E1 : rvOut l t = rvTo l t l.length := by rw [E.out, hx]; rfl
  have HOK := Lib.hid (fun k (hk : k < l.length) => ent_outline hx hk)
  have hl40 := Pl.dict_len hx
  rw [E1]
  clear E E1 hx
  go_enter Tryz.func10, Tryz.ntmps10
  go_upto_region 3 with (go_at_call 47; (with_reducible refine HV.out.mono ?_); rintro e W0 ⟨rfl, hb1⟩; have HB2 := Lib.hid (HB0.out.trans (hb1.mono HB0.out.size)); have HE2 := Lib.hid (HE.out.keep hb1); have HC2 := Lib.hid (keepcT hb1 HC.out); clear hb1)
  clear HB0 HE HC HV HM0
  have HW := Lib.hid (show w.heap.size ≤ W0.heap.size from HB2.out.size)
  have HR0 := Lib.hid (World.ownsRow_made (base := W0.heap.size) (e := 36) (size := 1) W0 #[] 0 (Nat.le_refl _) (by unfold maxLen; omega) rfl)
  have hc2 := HC2.out
  have hD1 : w.heap.size < W0.heap.size := World.block_lt_of_cell? _ _ hc2
  have hD2 : ¬ w.heap.size = W0.heap.size := by omega
  have hD3 : ¬ W0.heap.size = w.heap.size := by omega
  go_upto_region 5 with fail
  go_loopw [6, 16] (fun out i wr => ∃ (k : Nat) (xs : List Value) (U : Nat → Value), k ≤ l.length ∧ i = .int .i64 k ∧ Hid (wr.ownsRow W0.heap.size 36 1 out (rvTo l t k).length xs) ∧ Hid (Inner wr W0.heap.size wr.heap.size xs 1 0 (rvTo l t k) U) ∧ Below W0.heap.size W0 wr) (fun _ i _ => l.length - (intOf i).toNat)
  case atStart => exact ⟨0, [], _, Nat.zero_le _, rfl, HR0, Lib.hid (Inner.nil _ _ _ _ _), Joins.below_alloc1 _ _⟩
  clear HR0
  case round =>
    obtain ⟨k, xs, U, hk, rfl, HO, HI, hb⟩ := hrel
    have HB := Lib.hid hb; clear hb
    obtain ⟨al, cl, rfl⟩ := row_formD HO.out
    have hfl := rv_len l t k
    by_cases hlt : k < l.length
    · obtain ⟨b, off, u, rfl, c1, c2, c3⟩ := ent_at (HE2.out.keep HB.out) k hlt
      have hki : (k : Int) < (l.length : Int) := by omega
      have hk0 : (0 : Int) ≤ (k : Int) := by omega
      have hok := HOK.out k hlt
      have HNO := Lib.hid (fun h => rv_no (t := t) hlt h)
      have HYES := Lib.hid (fun h => rv_yes (t := t) hlt h)
      have hpl := HF1.out _ (List.getElem_mem hlt)
      generalize l[k] = p at c1 c2 c3 hok HNO HYES hpl
      obtain ⟨pl, pt⟩ := p
      dsimp only at c1 c2 c3 hok HNO HYES hpl
      have z1 := (Pl.outline_len hok).1
      obtain ⟨au, cu, rfl, _, _⟩ := rows_form c3
      obtain ⟨bu, ou, rfl⟩ : ∃ bu ou, au = some ⟨bu, ou, none⟩ := by
        obtain ⟨a1, c1', h1, _, _, _, _, h6⟩ := c3
        cases h1
        obtain ⟨b1, o1, e1, _⟩ := h6 _ _ (ints_at pl 0 (by omega))
        exact ⟨b1, o1, e1⟩
      have HBa := Joins.below_alloc1 wr (.cells #[.slice (some ⟨bu, ou, none⟩) pl.length cu, .string pt] 39)
      have HB1 := Lib.hid (below_on3 HB.out HBa)
      have HR1 := Lib.hid (c3.keep HBa)
      have HBA := Lib.hid HBa
      have e0 : (wr.alloc (.cells #[.slice (some ⟨bu, ou, none⟩) pl.length cu, .string pt] 39)).cell? ⟨wr.heap.size, 0, none⟩ = some (.slice (some ⟨bu, ou, none⟩) pl.length cu) := by simp [go_sem]
      have e1 : (wr.alloc (.cells #[.slice (some ⟨bu, ou, none⟩) pl.length cu, .string pt] 39)).cell? ⟨wr.heap.size, 1, none⟩ = some (.string pt) := by simp [go_sem]
      have HO2 := Lib.hid (own_keep HO.out HBA.out)
      have HI2 := Lib.hid ((HI.out.keep HBA.out).wider HBA.out.size)
      clear c3 HBa hok
      by_cases hy : pt = t
      · have E := Lib.hid (HYES.out hy)
        subst hy
        clear HNO HYES
        have HXL := Lib.hid (show xs.length = (rvTo l pt k).length * 1 from HO.out.1)
        generalize rvTo l pt k = L at HO HI HO2 HI2 E HXL hfl
        go_wp2_with (first
          | (at_builtin; have HO4 := HO3; refine app_ints rfl _ _ rfl W0.heap.size _ L.length xs rfl (HO4.out.alloc _) ⟨_, 0, none⟩ 1 a3 pl.length k3 rfl (ints_news _ _ _ _ rfl) (by omega) (by rw [World.size_alloc]; have := HB3w.out.size; omega) ?_; intro v4 w4 hown4 hg4)
          | (go_at_call 48; (with_reducible refine (copyOf_any bu ou _ cu pl _ rfl (rows_cells HR1.out).1 hpl).mono ?_); rintro e w3 ⟨v3, rfl, hown3, hb3⟩; have HU3 := Lib.hid hown3; have HH3 := Lib.hid hb3.size; obtain ⟨a3, k3, rfl⟩ := row_formD hown3; have HO3 := Lib.hid (own_keep HO2.out hb3); have HI3 := Lib.hid (HI2.out.keep hb3); have HB3w := Lib.hid (HB1.out.trans (hb3.mono HB1.out.size)); clear hown3 hb3))
        go_roundw
        case rel =>
          have hI4 := HI3.out.snoc (hi' := w3.heap.size) HXL.out (ys := [.slice a3 pl.length k3]) rfl HU3.out HB1.out.size (fun g hg => (HU3.out.lt g hg).2) HH3.out
          have hI5 := ((hI4.keep (Joins.below_alloc1 w3 (.cells #[.slice a3 pl.length k3] 36))).grown hg4 ((hI4.keep (Joins.below_alloc1 w3 (.cells #[.slice a3 pl.length k3] 36))).apart (HO3.out.alloc _) (by decide))).wider (Nat.le_trans (Nat.le_of_lt (by rw [World.size_alloc]; exact Nat.lt_succ_self _)) hg4.size)
          exact ⟨k + 1, _, _, by omega, by go_num, Lib.hid (by rw [E.out, List.length_append, List.length_singleton]; exact hown4), Lib.hid (by rw [E.out]; exact hI5), (HB3w.out.alloc HB3w.out.size _).grown hg4 (by rw [World.size_alloc]; exact Nat.le_succ_of_le HB3w.out.size) (fun j hj => (HO3.out.lt j hj).1)⟩
        case measure => simp [intOf]; omega
      · have E := Lib.hid (HNO.out hy)
        have hyy := text_neL hy
        clear HNO HYES hy
        go_wp2
        go_roundw
        case rel => exact ⟨k + 1, xs, U, by omega, by go_num, by rw [E.out]; exact HO2, by rw [E.out]; exact HI2, HB1.out⟩
        case measure => simp [intOf]; omega
    · obtain rfl : k = l.length := by omega
      go_wp2
      go_ret2
      exact ⟨_, _, rfl, OwnNest.of HO.out HI.out HW.out, HB2.out.trans (HB.out.mono HW.out)⟩

set_option maxRecDepth 20000 in
set_option maxHeartbeats 3200000 in
theorem specReverseLookup_any (v : Value) (l : List Ent) (t : ByteArray) (w : World) (hr : Ents w v l) (hl : l.length ≤ 1048576) (hs : ∀ p ∈ l, p.1.length ≤ 1048576 ∧ p.2.size ≤ 1048576) :
    Calls Tryz.prog 11 #[.agg #[v], .string t] w (RetII w (rvOut l t) (Pl.dictOk l)) := by
  have HB0 := Lib.hid (Joins.below_alloc1 w (.cells #[v] 26))
  have HBx := Lib.hid (HB0.out.trans ((Joins.below_alloc1 (w.alloc (.cells #[v] 26)) (.cells #[] 36)).mono HB0.out.size))
  have HE := Lib.hid (hr.keep HBx.out)
  have HV := Lib.hid (l6Good_any v l _ HE.out hl hs)
  have HF1 := Lib.hid (fun p hp => (hs p hp).1)
  have E := Lib.hid (show rvOut l t = if Pl.dictOk l = true then rvTo l t l.length else [] from rfl)
  obtain ⟨a, cap, rfl, _, _⟩ := ent_form hr
  have hc0 : ((w.alloc (.cells #[.slice a l.length cap] 26)).alloc (.cells #[] 36)).cell? ⟨w.heap.size, 0, none⟩ = some (.slice a l.length cap) := by simp [go_sem]
  have HC := Lib.hid hc0
  have HR0 := Lib.hid (show ((w.alloc (.cells #[.slice a l.length cap] 26)).alloc (.cells #[] 36)).ownsRow (w.heap.size + 1) 36 1 (.slice (some ⟨w.heap.size + 1, 0, none⟩) 0 0) 0 [] by
    have h9 := World.ownsRow_made (base := w.heap.size + 1) (e := 36) (size := 1) (w.alloc (.cells #[.slice a l.length cap] 26)) #[] 0 (by rw [World.size_alloc]; exact Nat.le_refl _) (by unfold maxLen; omega) rfl
    rw [World.size_alloc] at h9
    exact h9)
  have hrw := hr
  clear hr hs
  cases hx : Pl.dictOk l
  · rw [hx] at HV
    have E1 : rvOut l t = [] := by rw [E.out, hx]; rfl
    rw [E1]
    clear E E1 hx
    go_enter Tryz.func11, Tryz.ntmps11
    go_wp2_with (go_at_call 49; (with_reducible refine HV.out.mono ?_); rintro e w1 ⟨rfl, hb1⟩; have HB1 := Lib.hid (HBx.out.trans (hb1.mono HBx.out.size)); have HR1 := Lib.hid (own_keep HR0.out hb1); clear hb1)
    go_ret2
    exact ⟨_, _, rfl, OwnNest.of (own_lower2 HR1.out (Nat.le_succ _)) (Inner.nil _ _ _ _ _) (Nat.le_refl _), HB1.out⟩
  rw [hx] at HV
  have E1 : rvOut l t = rvTo l t l.length := by rw [E.out, hx]; rfl
  have HOK := Lib.hid (fun k (hk : k < l.length) => ent_outline hx hk)
  have hl40 := Pl.dict_len hx
  rw [E1]
  clear E E1 hx
  have HDw := Lib.hid hrw
  clear hrw
  go_enter Tryz.func11, Tryz.ntmps11
  go_upto_region 4 with (go_at_call 49; (with_reducible refine HV.out.mono ?_); rintro e W0 ⟨rfl, hb1⟩; have HB2 := Lib.hid (HBx.out.trans (hb1.mono HBx.out.size)); have HR1 := Lib.hid (own_keep HR0.out hb1); have HC2 := Lib.hid (keepcT hb1 HC.out); clear hb1)
  clear HB0 HBx HE HC HV HR0 hc0
  go_wp2
  go_loopw [6, 7] (fun out i wr => ∃ (k : Nat) (xs : List Value) (U : Nat → Value), k ≤ l.length ∧ i = .int .i64 k ∧ Hid (wr.ownsRow (w.heap.size + 1) 36 1 out (rvTo l t k).length xs) ∧ Hid (Inner wr (w.heap.size + 1) wr.heap.size xs 1 0 (rvTo l t k) U) ∧ Hid (wr.cell? ⟨w.heap.size, 0, none⟩ = some (.slice a l.length cap)) ∧ Below w.heap.size w wr) (fun _ i _ => l.length - (intOf i).toNat)
  case atStart => exact ⟨0, [], _, Nat.zero_le _, rfl, HR1, Lib.hid (Inner.nil _ _ _ _ _), HC2, HB2.out⟩
  clear HR1
  case round =>
    obtain ⟨k, xs, U, hk, rfl, HO, HI, HC3, hb⟩ := hrel
    have HB := Lib.hid hb; clear hb
    obtain ⟨al, cl, rfl⟩ := row_formD HO.out
    have hfl := rv_len l t k
    have q0 := HC3.out
    have hlo : w.heap.size + 1 ≤ wr.heap.size := World.block_lt_of_cell? _ _ q0
    by_cases hlt : k < l.length
    · obtain ⟨b, off, u, rfl, c1, c2, c3⟩ := ent_at (HDw.out.keep HB.out) k hlt
      have hki : (k : Int) < (l.length : Int) := by omega
      have hk0 : (0 : Int) ≤ (k : Int) := by omega
      have hok := HOK.out k hlt
      have HNO := Lib.hid (fun h => rv_no (t := t) hlt h)
      have HYES := Lib.hid (fun h => rv_yes (t := t) hlt h)
      have hpl := HF1.out _ (List.getElem_mem hlt)
      generalize l[k] = p at c1 c2 c3 hok HNO HYES hpl
      obtain ⟨pl, pt⟩ := p
      dsimp only at c1 c2 c3 hok HNO HYES hpl
      have z1 := (Pl.outline_len hok).1
      obtain ⟨au, cu, rfl, _, _⟩ := rows_form c3
      obtain ⟨bu, ou, rfl⟩ : ∃ bu ou, au = some ⟨bu, ou, none⟩ := by
        obtain ⟨a1, c1', h1, _, _, _, _, h6⟩ := c3
        cases h1
        obtain ⟨b1, o1, e1, _⟩ := h6 _ _ (ints_at pl 0 (by omega))
        exact ⟨b1, o1, e1⟩
      have HR1 := Lib.hid c3
      clear c3 hok
      by_cases hy : pt = t
      · have E := Lib.hid (HYES.out hy)
        subst hy
        clear HNO HYES
        have HXL := Lib.hid (show xs.length = (rvTo l pt k).length * 1 from HO.out.1)
        generalize rvTo l pt k = L at HO HI E HXL hfl
        go_wp2_with (first
          | (at_builtin; have HO4 := HO3; refine app_ints rfl _ _ rfl (w.heap.size + 1) _ L.length xs rfl (HO4.out.alloc _) ⟨_, 0, none⟩ 1 a3 pl.length k3 rfl (ints_news _ _ _ _ rfl) (by omega) (by rw [World.size_alloc]; have := HH3.out; omega) ?_; intro v4 w4 hown4 hg4)
          | (go_at_call 50; (with_reducible refine (l1Own_w bu ou _ cu pl _ rfl (rows_cells HR1.out).1 hpl).mono ?_); rintro e w3 ⟨v3, rfl, hown3, hb3⟩; have HU3 := Lib.hid hown3; have HH3 := Lib.hid hb3.size; obtain ⟨a3, k3, rfl⟩ := row_formD hown3; have HO3 := Lib.hid (own_keep HO.out hb3); have HI3 := Lib.hid (HI.out.keep hb3); have HB3w := Lib.hid (HB.out.trans (hb3.mono HB.out.size)); have HC4 := Lib.hid (keepcT hb3 q0); clear hown3 hb3))
        go_roundw
        case rel =>
          have hI4 := HI3.out.snoc (hi' := w3.heap.size) HXL.out (ys := [.slice a3 pl.length k3]) rfl HU3.out hlo (fun g hg => (HU3.out.lt g hg).2) HH3.out
          have hI5 := ((hI4.keep (Joins.below_alloc1 w3 (.cells #[.slice a3 pl.length k3] 36))).grown hg4 ((hI4.keep (Joins.below_alloc1 w3 (.cells #[.slice a3 pl.length k3] 36))).apart (HO3.out.alloc _) (by decide))).wider (Nat.le_trans (Nat.le_of_lt (by rw [World.size_alloc]; exact Nat.lt_succ_self _)) hg4.size)
          have hC5 := grown_under hg4 (fun g hg => (HO3.out.lt g hg).1) (Nat.lt_succ_self w.heap.size) (keepcT (Joins.below_alloc1 w3 (.cells #[.slice a3 pl.length k3] 36)) HC4.out)
          exact ⟨k + 1, _, _, by omega, by go_num, Lib.hid (by rw [E.out, List.length_append, List.length_singleton]; exact hown4), Lib.hid (by rw [E.out]; exact hI5), Lib.hid hC5, (HB3w.out.alloc HB3w.out.size _).grown hg4 (by rw [World.size_alloc]; exact Nat.le_succ_of_le HB3w.out.size) (fun j hj => Nat.le_of_succ_le (HO3.out.lt j hj).1)⟩
        case measure => simp [intOf]; omega
      · have E := Lib.hid (HNO.out hy)
        have hyy := text_neL hy
        clear HNO HYES hy
        go_wp2
        go_roundw
        case rel => exact ⟨k + 1, xs, U, by omega, by go_num, by rw [E.out]; exact HO, by rw [E.out]; exact HI, HC3, HB.out⟩
        case measure => simp [intOf]; omega
    · obtain rfl : k = l.length := by omega
      go_wp2
      go_ret2
      exact ⟨_, _, rfl, OwnNest.of HO.out HI.out (Nat.le_succ _), HB.out⟩

end Go.Proofs.YtdidgaibgkdjoaaGreatDoor

namespace Go.Proofs.YtdidgaibgkdjoaaGreatDoor
open Go.RowKit

theorem Pl.cmp_trans : ∀ (a b c : List Int), Pl.cmpI a b < 0 → Pl.cmpI b c < 0 → Pl.cmpI a c < 0
  | [], [], c, h, _ => by simp [Pl.cmpI] at h
  | [], _ :: _, [], _, h => by simp [Pl.cmpI] at h
  | [], _ :: _, _ :: _, _, _ => by simp [Pl.cmpI]
  | _ :: _, [], c, h, _ => by simp [Pl.cmpI] at h
  | _ :: _, _ :: _, [], _, h => by simp [Pl.cmpI] at h
  | x :: a, y :: b, z :: c, h1, h2 => by
    have ih := Pl.cmp_trans a b c
    unfold Pl.cmpI at h1 h2 ⊢
    by_cases e1 : x < y
    · by_cases e2 : y < z
      · rw [if_pos (show x < z by omega)]; decide
      · rw [if_neg e2] at h2
        by_cases e3 : z < y
        · rw [if_pos e3] at h2; simp at h2
        · rw [if_pos (show x < z by omega)]; decide
    · rw [if_neg e1] at h1
      by_cases e1' : y < x
      · rw [if_pos e1'] at h1; simp at h1
      · rw [if_neg e1'] at h1
        by_cases e2 : y < z
        · rw [if_pos (show x < z by omega)]; decide
        · rw [if_neg e2] at h2
          by_cases e3 : z < y
          · rw [if_pos e3] at h2; simp at h2
          · rw [if_neg e3] at h2
            rw [if_neg (show ¬ x < z by omega), if_neg (show ¬ z < x by omega)]
            exact ih h1 h2
theorem dict_lt {l : List Ent} (h : Pl.dictOk l = true) : ∀ (j : Nat) (hj : j < l.length) (i : Nat) (hi : i < j), Pl.cmpI (l[i]'(by omega)).1 (l[j]).1 < 0
  | 0, _, i, hi => absurd hi (Nat.not_lt_zero i)
  | j + 1, hj, i, hi => by
    have h1 : Pl.cmpI (l[j]'(by omega)).1 (l[j + 1]).1 < 0 := by
      have h2 := Pl.dict_next hj (Pl.dict_ent h hj)
      have h3 : Pl.dictAt l (j + 1) = true := by
        cases hx : Pl.dictAt l (j + 1) with
        | true => rfl
        | false => rw [Pl.dict_no hj hx] at h; cases h
      rw [h3] at h2
      exact of_decide_eq_true h2.symm
    rcases Nat.lt_or_ge i j with hlt | hge
    · exact Pl.cmp_trans _ _ _ (dict_lt h j (by omega) i hlt) h1
    · obtain rfl : i = j := by omega
      exact h1
theorem look_own {l : List Ent} (h : Pl.dictOk l = true) {k : Nat} (hk : k < l.length) : lookOk l (l[k]).1 = true ∧ lookOut l (l[k]).1 = (l[k]).2 := by
  have h1 : Pl.atD l (l[k]).1 = k := by
    refine Pl.atD_hit hk ?_ (by simp)
    rw [List.all_eq_true]
    intro p hp
    obtain ⟨i, hi, rfl⟩ := List.getElem_of_mem hp
    rw [List.length_take] at hi
    rw [List.getElem_take]
    have := dict_lt h k hk i (by omega)
    simp only [Bool.not_eq_true', beq_eq_false_iff_ne, ne_eq]
    intro e
    rw [Pl.cmp_zero.2 e] at this
    omega
  constructor
  · unfold lookOk Pl.hasD
    rw [h, h1, Bool.true_and, decide_eq_true_iff]
    omega
  · unfold lookOut
    rw [if_pos h, Pl.textD_hit hk h1]
theorem rv_look {l : List Ent} {t : ByteArray} (h : Pl.dictOk l = true) {q : List Int} {n : Nat} (hq : q ∈ rvTo l t n) : lookOk l q = true ∧ lookOut l q = t := by
  unfold rvTo at hq
  obtain ⟨p, hp, rfl⟩ := List.mem_map.1 hq
  rw [List.mem_filter] at hp
  obtain ⟨hp1, hp2⟩ := hp
  obtain ⟨i, hi, rfl⟩ := List.getElem_of_mem (List.mem_of_mem_take hp1)
  have := look_own h hi
  rw [of_decide_eq_true hp2] at this
  exact this
theorem rv_small {l : List Ent} {t : ByteArray} (hs : ∀ p ∈ l, p.1.length ≤ 1048576) {q : List Int} {n : Nat} (hq : q ∈ rvTo l t n) : q.length ≤ 1048576 := by
  unfold rvTo at hq
  obtain ⟨p, hp, rfl⟩ := List.mem_map.1 hq
  exact hs p (List.mem_of_mem_take (List.mem_filter.1 hp).1)
/-- the longest outline -/
def lgTo (l : List Ent) : Nat → Nat
  | 0 => 0
  | k + 1 => max (lgTo l k) (l.getD k ([], ⟨#[]⟩)).1.length
theorem lg_next {l : List Ent} {k : Nat} (hk : k < l.length) : lgTo l (k + 1) = max (lgTo l k) (l[k]).1.length := by
  show max _ _ = _
  rw [List.getD_eq_getElem?_getD, List.getElem?_eq_getElem hk]; rfl
theorem lg_up {l : List Ent} : ∀ (n k : Nat), k < n → n ≤ l.length → ∀ (h : k < l.length), (l[k]).1.length ≤ lgTo l n
  | 0, k, hk, _, _ => absurd hk (Nat.not_lt_zero k)
  | n + 1, k, hk, hn, h => by
    rw [lg_next (by omega)]
    rcases Nat.lt_or_ge k n with hlt | hge
    · exact Nat.le_trans (lg_up n k hlt (by omega) h) (Nat.le_max_left _ _)
    · obtain rfl : k = n := by omega
      exact Nat.le_max_right _ _
theorem lg_le {l : List Ent} {m : Nat} (hs : ∀ p ∈ l, p.1.length ≤ m) : ∀ n, n ≤ l.length → lgTo l n ≤ m
  | 0, _ => Nat.zero_le _
  | n + 1, hn => by
    rw [lg_next (by omega)]
    exact Nat.max_le.2 ⟨lg_le hs n (by omega), hs _ (List.getElem_mem _)⟩
def lgOut (l : List Ent) : Nat := if Pl.dictOk l = true then lgTo l l.length else 0

end Go.Proofs.YtdidgaibgkdjoaaGreatDoor

namespace Go.Proofs.YtdidgaibgkdjoaaGreatDoor
open Go.RowKit

theorem max_nat (q n : Nat) : ((max q n : Nat) : Int) = max (q : Int) (n : Int) := by omega
def RetLg (l : List Ent) (w : World) (e : Ending) (w' : World) : Prop := e = .returned (.tuple #[.int .i64 (lgOut l : Nat), .bool (Pl.dictOk l)]) ∧ Below w.heap.size w w'

set_option maxRecDepth 20000 in
set_option maxHeartbeats 3200000 in
theorem LongestOutline_any (v : Value) (l : List Ent) (w : World) (hr : Ents w v l) (hl : l.length ≤ 1048576) (hs : ∀ p ∈ l, p.1.length ≤ 1048576 ∧ p.2.size ≤ 1048576) (hm : ∃ m, w.cell? ⟨0, 0, none⟩ = some (.int .i64 m)) :
    Calls Tryz.prog 12 #[.agg #[v]] w (RetLg l w) := by
  have HB0 := Lib.hid (Joins.below_alloc1 w (.cells #[v] 26))
  have HM0 := Lib.hid (max_keepT hm HB0.out)
  have HE := Lib.hid (hr.keep HB0.out)
  have HV := Lib.hid (IsValidDictionary_any v l _ HE.out hl hs HM0.out)
  have HF1 := Lib.hid (fun p hp => (hs p hp).1)
  have E := Lib.hid (show lgOut l = if Pl.dictOk l = true then lgTo l l.length else 0 from rfl)
  have HLG := Lib.hid (fun n (hn : n ≤ l.length) => lg_le HF1.out n hn)
  obtain ⟨a, cap, rfl, _, _⟩ := ent_form hr
  have HC := Lib.hid (show (w.alloc (.cells #[.slice a l.length cap] 26)).cell? ⟨w.heap.size, 0, none⟩ = some (.slice a l.length cap) by simp [go_sem])
  clear hr hs hm
  unfold RetLg
  cases hx : Pl.dictOk l
  · rw [hx] at HV
    have E1 : lgOut l = 0 := by rw [E.out, hx]; rfl
    rw [E1]
    clear E E1 hx
    go_enter Tryz.func12, Tryz.ntmps12
    go_wp2_with (go_at_call 47; (with_reducible refine HV.out.mono ?_); rintro e w1 ⟨rfl, hb1⟩; have HB1 := Lib.hid (HB0.out.trans (hb1.mono HB0.out.size)); clear hb1)
    go_ret2
    exact ⟨rfl, HB1.out⟩
  rw [hx] at HV
  have E1 : lgOut l = lgTo l l.length := by rw [E.out, hx]; rfl
  rw [E1]
  clear E E1 hx
  go_enter Tryz.func12, Tryz.ntmps12
  go_upto_region 3 with (go_at_call 47; (with_reducible refine HV.out.mono ?_); rintro e W0 ⟨rfl, hb1⟩; have HB2 := Lib.hid (HB0.out.trans (hb1.mono HB0.out.size)); have HE2 := Lib.hid (HE.out.keep hb1); have hc2 := keepcT hb1 HC.out; clear hb1)
  clear HB0 HE HC HV HM0
  go_upto_region 5 with fail
  clear hc2
  go_loopw [4, 13] (fun q i wr => ∃ (k : Nat), k ≤ l.length ∧ i = .int .i64 k ∧ q = .int .i64 (lgTo l k : Nat) ∧ Below W0.heap.size W0 wr) (fun _ i _ => l.length - (intOf i).toNat)
  case atStart => exact ⟨0, Nat.zero_le _, rfl, rfl, Below.refl _ _⟩
  case round =>
    obtain ⟨k, hk, rfl, rfl, hb⟩ := hrel
    have HB := Lib.hid hb; clear hb
    have hq := HLG.out k hk
    by_cases hlt : k < l.length
    · obtain ⟨b, off, u, rfl, c1, c2, c3⟩ := ent_at (HE2.out.keep HB.out) k hlt
      have hki : (k : Int) < (l.length : Int) := by omega
      have hk0 : (0 : Int) ≤ (k : Int) := by omega
      have HN := Lib.hid (lg_next hlt)
      have hpl := HF1.out _ (List.getElem_mem hlt)
      generalize l[k] = p at c1 c2 c3 HN hpl
      obtain ⟨pl, pt⟩ := p
      dsimp only at c1 c2 c3 HN hpl
      obtain ⟨au, cu, rfl, _, _⟩ := rows_form c3
      have HB1 := Lib.hid (below_on3 HB.out (Joins.below_alloc1 wr (.cells #[.slice au pl.length cu, .string pt] 39)))
      have e0 : (wr.alloc (.cells #[.slice au pl.length cu, .string pt] 39)).cell? ⟨wr.heap.size, 0, none⟩ = some (.slice au pl.length cu) := by simp [go_sem]
      clear c3
      generalize lgTo l k = q at hq HN ⊢
      have hmx := max_nat q pl.length
      go_wp2
      go_roundw
      case rel => exact ⟨k + 1, by omega, by go_num, by rw [HN.out, hmx], HB1.out⟩
      case measure => simp [intOf]; omega
    · obtain rfl : k = l.length := by omega
      go_wp2
      go_ret2
      exact ⟨rfl, HB2.out.trans (HB.out.mono HB2.out.size)⟩

theorem l1Mx_any (a b : Int) (w : World) : Calls Tryz.prog 100 #[.int .i64 a, .int .i64 b] w fun e w' => e = .returned (.int .i64 (max a b)) ∧ w' = w := by
  by_cases h : b < a
  · have hm : max a b = a := by omega
    rw [hm]
    go_enter Tryz.func100, Tryz.ntmps100
    go_wp2
    go_ret
    exact ⟨rfl, rfl⟩
  · have hm : max a b = b := by omega
    rw [hm]
    go_enter Tryz.func100, Tryz.ntmps100
    go_wp2
    go_ret
    exact ⟨rfl, rfl⟩

set_option maxRecDepth 20000 in
set_option maxHeartbeats 3200000 in
theorem l6Longest_any (v : Value) (l : List Ent) (w : World) (hr : Ents w v l) (hl : l.length ≤ 1048576) (hs : ∀ p ∈ l, p.1.length ≤ 1048576) :
    Calls Tryz.prog 51 #[.agg #[v]] w fun e w' => e = .returned (.int .i64 (lgTo l l.length : Nat)) ∧ Below w.heap.size w w' := by
  have HB0 := Lib.hid (Joins.below_alloc1 w (.cells #[v] 26))
  have HE := Lib.hid (hr.keep HB0.out)
  have HF1 := Lib.hid hs
  have HLG := Lib.hid (fun n (hn : n ≤ l.length) => lg_le HF1.out n hn)
  obtain ⟨a, cap, rfl, _, _⟩ := ent_form hr
  have HC := Lib.hid (show (w.alloc (.cells #[.slice a l.length cap] 26)).cell? ⟨w.heap.size, 0, none⟩ = some (.slice a l.length cap) by simp [go_sem])
  clear hr hs
  go_enter Tryz.func51, Tryz.ntmps51
  go_wp2
  obtain ⟨W0, hW0⟩ : ∃ W0, W0 = w.alloc (.cells #[.slice a l.length cap] 26) := ⟨_, rfl⟩
  rw [← hW0] at HB0 HE HC ⊢
  clear hW0
  go_loopw [3, 4] (fun q i wr => ∃ (k : Nat), k ≤ l.length ∧ i = .int .i64 k ∧ q = .int .i64 (lgTo l k : Nat) ∧ Below W0.heap.size W0 wr) (fun _ i _ => l.length - (intOf i).toNat)
  case atStart => exact ⟨0, Nat.zero_le _, rfl, rfl, Below.refl _ _⟩
  case round =>
    obtain ⟨k, hk, rfl, rfl, hb⟩ := hrel
    have HB := Lib.hid hb; clear hb
    have hq := HLG.out k hk
    have q0 := keepcT HB.out HC.out
    by_cases hlt : k < l.length
    · obtain ⟨b, off, u, rfl, c1, c2, c3⟩ := ent_at (HE.out.keep HB.out) k hlt
      have hki : (k : Int) < (l.length : Int) := by omega
      have hk0 : (0 : Int) ≤ (k : Int) := by omega
      have HN := Lib.hid (lg_next hlt)
      have hpl := HF1.out _ (List.getElem_mem hlt)
      generalize l[k] = p at c1 c2 c3 HN hpl
      obtain ⟨pl, pt⟩ := p
      dsimp only at c1 c2 c3 HN hpl
      obtain ⟨au, cu, rfl, _, _⟩ := rows_form c3
      clear c3
      generalize lgTo l k = q at hq HN ⊢
      have hmx := max_nat q pl.length
      have HM := Lib.hid (fun W => l1Mx_any (q : Int) (pl.length : Int) W)
      go_wp2_with (go_at_call 100; (with_reducible refine (HM.out _).mono ?_); rintro e w2 ⟨rfl, rfl⟩)
      go_roundw
      case rel => exact ⟨k + 1, by omega, by go_num, by rw [HN.out, hmx], HB.out⟩
      case measure => simp [intOf]; omega
    · obtain rfl : k = l.length := by omega
      go_wp2
      go_ret
      exact ⟨rfl, HB0.out.trans (HB.out.mono HB0.out.size)⟩

set_option maxRecDepth 20000 in
set_option maxHeartbeats 3200000 in
theorem specLongestOutline_any (v : Value) (l : List Ent) (w : World) (hr : Ents w v l) (hl : l.length ≤ 1048576) (hs : ∀ p ∈ l, p.1.length ≤ 1048576 ∧ p.2.size ≤ 1048576) :
    Calls Tryz.prog 13 #[.agg #[v]] w (RetLg l w) := by
  have HB0 := Lib.hid (Joins.below_alloc1 w (.cells #[v] 26))
  have HE := Lib.hid (hr.keep HB0.out)
  have HV := Lib.hid (l6Good_any v l _ HE.out hl hs)
  have HF1 := Lib.hid (fun p hp => (hs p hp).1)
  have E := Lib.hid (show lgOut l = if Pl.dictOk l = true then lgTo l l.length else 0 from rfl)
  obtain ⟨a, cap, rfl, _, _⟩ := ent_form hr
  have HC := Lib.hid (show (w.alloc (.cells #[.slice a l.length cap] 26)).cell? ⟨w.heap.size, 0, none⟩ = some (.slice a l.length cap) by simp [go_sem])
  have HLn := Lib.hid (fun W h => l6Longest_any (.slice a l.length cap) l W h hl HF1.out)
  clear hr hs
  unfold RetLg
  cases hx : Pl.dictOk l
  · rw [hx] at HV
    have E1 : lgOut l = 0 := by rw [E.out, hx]; rfl
    rw [E1]
    clear E E1 hx
    go_enter Tryz.func13, Tryz.ntmps13
    go_wp2_with (go_at_call 49; (with_reducible refine HV.out.mono ?_); rintro e w1 ⟨rfl, hb1⟩; have HB1 := Lib.hid (HB0.out.trans (hb1.mono HB0.out.size)); clear hb1)
    go_ret2
    exact ⟨rfl, HB1.out⟩
  rw [hx] at HV
  have E1 : lgOut l = lgTo l l.length := by rw [E.out, hx]; rfl
  rw [E1]
  clear E E1 hx
  generalize lgTo l l.length = q at HLn ⊢
  go_enter Tryz.func13, Tryz.ntmps13
  go_wp2_with (first
    | (go_at_call 51; (with_reducible refine (HLn.out _ HE2.out).mono ?_); rintro e w2 ⟨rfl, hb2⟩; have HB3 := Lib.hid (HB2.out.trans (hb2.mono HB2.out.size)); clear hb2)
    | (go_at_call 49; (with_reducible refine HV.out.mono ?_); rintro e W0 ⟨rfl, hb1⟩; have HB2 := Lib.hid (HB0.out.trans (hb1.mono HB0.out.size)); have HE2 := Lib.hid (HE.out.keep hb1); have hc2 := keepcT hb1 HC.out; clear hb1))
  go_ret2
  exact ⟨rfl, HB3.out⟩

end Go.Proofs.YtdidgaibgkdjoaaGreatDoor
