/-
  CONTRACTS: Unfold of the program and of the reference.
-/
import Derived.Test.YtfjdbchffhbidaaOutline
import Derived.Test.YtfjdbchffhbidaaWithLast
import Derived.Test.YtfjdbchffhbidaaFolds
import Derived.BigRegion
import Derived.Deep.RegionLaw
import Derived.Deep.DeepCutAuto
import Derived.Deep.RegionHeld3
namespace Go.Proofs.Ytfjdbchffhbidaa
open Go.RowKit

theorem last_cell {w : World} {a : Option Addr} {l : List Int} (hc : CellsAt w a (ints l)) (h : 1 ≤ l.length) : ∃ b off, a = some ⟨b, off, none⟩ ∧ w.cell? ⟨b, off + (l.length - 1), none⟩ = some (.int .i64 (Pl.lastI l)) := by
  obtain ⟨b, off, h1, h2⟩ := hc (l.length - 1) (.int .i64 (Pl.lastI l)) (by
    rw [ints_at l (l.length - 1) (by omega)]
    unfold Pl.lastI
    rw [List.getD_eq_getElem?_getD, List.getElem?_eq_getElem (by omega)]
    rfl)
  exact ⟨b, off, h1, h2⟩
theorem pow_bd {j : Nat} (h : j ≤ 22) : (1 : Int) ≤ (2 : Int) ^ j ∧ (2 : Int) ^ j ≤ 4194304 := by
  have hk : 2 ^ j ≤ 2 ^ 22 := Nat.pow_le_pow_right (by omega) h
  have hp : 0 < 2 ^ j := Nat.two_pow_pos _
  have e : (2 : Int) ^ j = ((2 ^ j : Nat) : Int) := by simp
  rw [e]
  generalize 2 ^ j = x at hk hp
  omega
theorem wrap_powI {j : Nat} (h : j ≤ 22) : wrap64 ((2 : Int) ^ j) = (2 : Int) ^ j := IntWalk.wrap64_in _ ⟨by have := pow_bd h; omega, by have := pow_bd h; omega⟩
theorem un_no {l : List Int} {k : Int} (h : Pl.unOk l k = false) : Pl.un l k = [] := by simp [Pl.un, h]
theorem un_yes {l : List Int} {k : Int} (h : Pl.unOk l k = true) : Pl.un l k = Pl.withLast l (Pl.lastI l - 2 ^ k.toNat) := by simp [Pl.un, h]

set_option maxRecDepth 20000 in
set_option maxHeartbeats 1600000 in
theorem unfold_any (b off cap : Nat) (l : List Int) (k : Int) (t : ByteArray) (w : World) (hc : CellsAt w (some ⟨b, off, none⟩) (ints l)) (hcap : l.length ≤ cap) (h1 : Pl.outlineB l = true) (h2 : Pl.foldB k t = true) :
    Calls Try.prog 58 #[.agg #[.int .i64 k, .string t], .slice (some ⟨b, off, none⟩) l.length cap] w (RetRowB 3 1 w.heap.size w (Pl.un l k).length (ints (Pl.un l k)) (Pl.unOk l k)) := by
  have z1 := Pl.outline_len h1
  obtain ⟨n, hn, hn1, hn2⟩ := Pl.stroke_nat (Pl.outline_last h1)
  obtain ⟨j, rfl, hj1, hj2⟩ := Pl.fold_key h2
  have HB := Lib.hid (Joins.below_alloc1 w (.cells #[.int .i64 (j : Int), .string t] 37))
  have HC := Lib.hid (hc.keep HB.out)
  obtain ⟨b', off', he, hlast⟩ := last_cell HC.out z1.1
  cases he
  rw [hn] at hlast
  have hw := wrap_powI hj2
  have hp := pow_bd hj2
  have hp1 := hp.1; have hp2 := hp.2
  clear hc h1 h2 hp
  have hsh := Pl.shr_key n j hn2
  cases hq : n.testBit j
  · have q1 : (bits .and .i64 ((n : Int) / 2 ^ j) 1 == 0) = true := by rw [hsh, hq]; rfl
    have E := Lib.hid (show Pl.unOk l j = false by simp [Pl.unOk, Pl.keyOn, hn, hq])
    rw [un_no E.out, E.out]
    clear hsh E
    go_enter Try.func58, Try.ntmps58
    go_wp2
    go_ret2
    exact ⟨_, rfl, World.ownsRow_nil _ _ _ _, HB.out⟩
  · have q1 : (bits .and .i64 ((n : Int) / 2 ^ j) 1 == 0) = false := by rw [hsh, hq]; rfl
    clear hsh
    cases hq2 : ((n : Int) == 2 ^ j)
    · have p2 := bF hq2
      have E := Lib.hid (show Pl.unOk l j = true by simp only [Pl.unOk, Pl.keyOn, hn, Int.toNat_natCast, hq, hq2]; rfl)
      have F := Lib.hid (show Pl.lastI l - 2 ^ ((j : Int)).toNat = (n : Int) - 2 ^ j by rw [hn]; rfl)
      rw [un_yes E.out, E.out, F.out, Pl.withLast_length _ _ z1.1]
      clear E F
      go_enter Try.func58, Try.ntmps58
      go_wp2_with (go_at_call 55; refine (withLast_any b off cap l _ _ HC.out hcap (by omega) z1.1).mono ?_; rintro e w3 ⟨v3, rfl, hown3, hb3⟩)
      go_ret2
      exact ⟨_, rfl, own_base hown3 HB.out.size, HB.out.trans (hb3.mono HB.out.size)⟩
    · have p2 := bT hq2
      have E := Lib.hid (show Pl.unOk l j = false by simp only [Pl.unOk, Pl.keyOn, hn, Int.toNat_natCast, hq, hq2]; rfl)
      rw [un_no E.out, E.out]
      clear E
      go_enter Try.func58, Try.ntmps58
      go_wp2
      all_goals go_ret2
      all_goals exact ⟨_, rfl, World.ownsRow_nil _ _ _ _, HB.out⟩

theorem unfold_bad {l : List Int} {k : Int} {t : ByteArray} (h : (Pl.outlineB l && Pl.foldB k t) = false) : Pl.unfoldOut l k t = [] ∧ Pl.unfoldOk l k t = false := by
  have h2 : Pl.unfoldOk l k t = false := by unfold Pl.unfoldOk; rw [h, Bool.false_and]
  exact ⟨by simp [Pl.unfoldOut, h2], h2⟩
theorem unfold_good {l : List Int} {k : Int} {t : ByteArray} (h1 : Pl.outlineB l = true) (h2 : Pl.foldB k t = true) : Pl.unfoldOut l k t = Pl.un l k ∧ Pl.unfoldOk l k t = Pl.unOk l k := by
  have h3 : Pl.unfoldOk l k t = Pl.unOk l k := by unfold Pl.unfoldOk; rw [h1, h2]; rfl
  exact ⟨by unfold Pl.unfoldOut Pl.un; rw [h3], h3⟩

set_option maxRecDepth 20000 in
set_option maxHeartbeats 1600000 in
theorem Unfold_any (v : Value) (l : List Int) (k : Int) (t : ByteArray) (w : World) (hr : Rows w v l.length 1 (ints l)) (hl : l.length ≤ 1048576) (ht : t.size ≤ maxLen) :
    Calls Try.prog 24 #[v, .agg #[.int .i64 k, .string t]] w (RetRowB 3 1 w.heap.size w (Pl.unfoldOut l k t).length (ints (Pl.unfoldOut l k t)) (Pl.unfoldOk l k t)) := by
  have HB := Lib.hid (Joins.below_alloc1 w (.cells #[.int .i64 k, .string t] 37))
  have HR := Lib.hid (hr.keep HB.out)
  have ca : (w.alloc (.cells #[.int .i64 k, .string t] 37)).cell? ⟨w.heap.size, 0, none⟩ = some (.int .i64 k) := by simp
  have cb : (w.alloc (.cells #[.int .i64 k, .string t] 37)).cell? ⟨w.heap.size, 1, none⟩ = some (.string t) := by simp
  clear hr
  cases h1 : Pl.outlineB l
  · have E := Lib.hid (unfold_bad (k := k) (t := t) (by rw [h1]; rfl))
    rw [E.out.1, E.out.2]
    clear E
    go_enter Try.func24, Try.ntmps24
    go_wp2_with (go_at_call 53; refine (IsValidOutline_any _ l _ HR.out hl).mono ?_; rintro e w1 ⟨he, hb1⟩; rw [h1] at he; subst he)
    go_ret2
    exact ⟨_, rfl, World.ownsRow_nil _ _ _ _, HB.out.trans (hb1.mono HB.out.size)⟩
  · cases h2 : Pl.foldB k t
    · have E := Lib.hid (unfold_bad (l := l) (k := k) (t := t) (by rw [h1, h2]; rfl))
      rw [E.out.1, E.out.2]
      clear E
      go_enter Try.func24, Try.ntmps24
      go_wp2_with (first
        | (go_at_call 53; refine (IsValidOutline_any _ l _ HR.out hl).mono ?_; rintro e w1 ⟨he, hb1⟩; rw [h1] at he; subst he; have ca1 := keepc hb1 ca; have cb1 := keepc hb1 cb)
        | (go_at_call 54; refine (isFold_any _ _ _ ht).mono ?_; rintro e w2 ⟨he, hb2⟩; rw [h2] at he; subst he))
      go_ret2
      exact ⟨_, rfl, World.ownsRow_nil _ _ _ _, (HB.out.trans (hb1.mono HB.out.size)).trans (hb2.mono (Nat.le_trans HB.out.size hb1.size))⟩
    · have E := Lib.hid (unfold_good h1 h2)
      rw [E.out.1, E.out.2]
      clear E
      have z1 := Pl.outline_len h1
      have HR2 := HR.out
      obtain ⟨a, cap, rfl, hcap, _, _, _, hcells⟩ := HR2
      obtain ⟨b, off, rfl, -⟩ := last_cell hcells z1.1
      have HC := Lib.hid hcells
      clear hcells
      go_enter Try.func24, Try.ntmps24
      go_wp2_with (first
        | (go_at_call 58; refine (unfold_any b off cap l k t _ (HC2.out) hcap h1 h2).mono ?_; rintro e w3 ⟨v3, rfl, hown3, hb3⟩)
        | (go_at_call 53; refine (IsValidOutline_any _ l _ HR.out hl).mono ?_; rintro e w1 ⟨he, hb1⟩; rw [h1] at he; subst he; have ca1 := keepc hb1 ca; have cb1 := keepc hb1 cb)
        | (go_at_call 54; refine (isFold_any _ _ _ ht).mono ?_; rintro e w2 ⟨he, hb2⟩; rw [h2] at he; subst he; have ca2 := keepc hb2 ca1; have cb2 := keepc hb2 cb1; have HC2 := Lib.hid ((HC.out.keep hb1).keep hb2); have HB2 := Lib.hid ((HB.out.trans (hb1.mono HB.out.size)).trans (hb2.mono (Nat.le_trans HB.out.size hb1.size)))))
      go_ret2
      exact ⟨_, rfl, own_base hown3 HB2.out.size, HB2.out.trans (hb3.mono HB2.out.size)⟩

end Go.Proofs.Ytfjdbchffhbidaa
