/-
  CONTRACTS: the draws of translations: atoms, translation. Of a translation only the size is told.
-/
import Derived.Test.YtdidgaibgkdjoaaGreatDoorDrawOut
namespace Go.Proofs.YtdidgaibgkdjoaaGreatDoor
open Go.RowKit

theorem Read.onB {v : Value} {m g B : Nat} {a b c : World} (h : Read v m g B a b) (hb : Below b.heap.size b c) : Read v m g B a c := ⟨h.1.keep hb, grownBy_trans h.2 ⟨hb.os, hb.tape, hb.output, hb.size, fun j hj _ => hb.block j hj⟩⟩
/-- a text of at most hi bytes -/
def RetLen (hi : Nat) (w : World) (e : Ending) (w' : World) : Prop := (∃ s : ByteArray, e = .returned (.string s) ∧ s.size ≤ hi) ∧ Below w.heap.size w w'
def RetYN (w : World) (e : Ending) (w' : World) : Prop := (∃ b : Bool, e = .returned (.bool b)) ∧ Below w.heap.size w w'

set_option maxHeartbeats 800000 in
theorem l5Format_w (a : Int) (x : ByteArray) (w : World) (hs : x.size ≤ 1048576) :
    Calls Tryz.prog 142 #[.agg #[.int .i64 a, .string x]] w (RetLen (x.size + 6) w) := by
  have HB := Lib.hid (Joins.below_alloc1 w (.cells #[.int .i64 a, .string x] 161))
  by_cases h : a = 1 ∨ a = 2 ∨ a = 3 ∨ a = 4 ∨ a = 5 ∨ a = 8 ∨ a = 9 ∨ a = 10
  · rcases h with rfl | rfl | rfl | rfl | rfl | rfl | rfl | rfl
    all_goals
      go_enter Tryz.func142, Tryz.ntmps142
      go_wp2
      go_ret
      exact ⟨⟨_, rfl, by first | omega | (simp only [ByteArray.size_append]; show _ + _ ≤ _; first | (show 1 + _ + 1 ≤ _; omega) | (show 2 + _ + 1 ≤ _; omega) | (show 1 + _ + 2 ≤ _; omega) | (show 2 + _ + 2 ≤ _; omega)) | (show 4 ≤ _; omega) | (show 3 ≤ _; omega) | (show 5 ≤ _; omega)⟩, HB.out⟩
  · have n1 : ¬ a = 1 := by omega
    have n2 : ¬ a = 2 := by omega
    have n3 : ¬ a = 3 := by omega
    have n4 : ¬ a = 4 := by omega
    have n5 : ¬ a = 5 := by omega
    have n8 : ¬ a = 8 := by omega
    have n9 : ¬ a = 9 := by omega
    have n10 : ¬ a = 10 := by omega
    clear h
    go_enter Tryz.func142, Tryz.ntmps142
    go_wp2
    go_ret
    exact ⟨⟨_, rfl, by simp only [ByteArray.size_append]; show 1 + _ + 1 ≤ _; omega⟩, HB.out⟩

set_option maxHeartbeats 1600000 in
theorem l5List_w (v : Value) (l : List (Int × ByteArray)) (w : World) (hr : Rows w v l.length 2 (folds l)) (hl : l.length ≤ 10) (hz : ∀ p ∈ l, p.2.size ≤ 100) :
    Calls Tryz.prog 94 #[v] w (RetYN w) := by
  obtain ⟨a, cap, rfl, _, _, _, _, hcells⟩ := hr
  have HC := Lib.hid hcells; have HZ := Lib.hid hz
  clear hcells hz
  have HI := Lib.hid (l1In_any (l.length : Int) 1 10 w)
  cases hin : Pl.inB (l.length : Int) 1 10
  · rw [hin] at HI
    go_enter Tryz.func94, Tryz.ntmps94
    go_wp2_with (go_at_call 117; refine HI.out.mono ?_; rintro e w' ⟨rfl, rfl⟩)
    go_ret
    exact ⟨⟨_, rfl⟩, Below.refl _ _⟩
  · rw [hin] at HI
    go_enter Tryz.func94, Tryz.ntmps94
    go_wp2_with (go_at_call 117; refine HI.out.mono ?_; rintro e w' ⟨rfl, rfl⟩)
    go_loopw [3, 4] (fun n i wr => ∃ (k : Nat) (z : Int), k ≤ l.length ∧ i = .int .i64 k ∧ n = .int .i64 z ∧ 0 ≤ z + 10 ∧ z ≤ 10 + 106 * (k : Int) ∧ Below w.heap.size w wr) (fun _ i _ => l.length - (intOf i).toNat)
    case atStart => exact ⟨0, (l.length : Int) - 1, Nat.zero_le _, rfl, rfl, by omega, by omega, Below.refl _ _⟩
    case round =>
      obtain ⟨k, z, hk, rfl, rfl, hz0, hz1, hb⟩ := hrel
      have HB := Lib.hid hb; clear hb
      by_cases hlt : k < l.length
      · obtain ⟨b, off, rfl, c1, c2⟩ := fold_cells (HC.out.keep HB.out) k hlt
        have hki : (k : Int) < (l.length : Int) := by omega
        have hk0 : (0 : Int) ≤ (k : Int) := by omega
        have hx := HZ.out _ (List.getElem_mem hlt)
        generalize l[k] = p at c1 c2 hx
        obtain ⟨pa, px⟩ := p
        dsimp only at c1 c2 hx
        have HG := Lib.hid (fun W => l5Good_any pa px W (by unfold maxLen; omega))
        cases hg : Pl.atomOk pa px
        · rw [hg] at HG
          go_wp2_with (go_at_call 126; (with_reducible refine (HG.out _).mono ?_); rintro e w1 ⟨rfl, hb1⟩; have HB1 := Lib.hid (HB.out.trans (hb1.mono HB.out.size)); clear hb1)
          go_ret
          exact ⟨⟨_, rfl⟩, HB1.out⟩
        · rw [hg] at HG
          go_wp2_with (first
            | (go_at_call 142; have hx2 := HB1; refine (l5Format_w pa px _ (by omega)).mono ?_; rintro e w2 ⟨⟨s, rfl, hs⟩, hb2⟩; have HB2 := Lib.hid (HB1.out.trans (hb2.mono HB1.out.size)); clear hb2 hx2)
            | (go_at_call 126; (with_reducible refine (HG.out _).mono ?_); rintro e w1 ⟨rfl, hb1⟩; have HB1 := Lib.hid (HB.out.trans (hb1.mono HB.out.size)); have d1 := keepc hb1 c1; have d2 := keepc hb1 c2; clear hb1))
          go_roundw
          case rel => exact ⟨k + 1, _, by omega, by go_num, rfl, by omega, by omega, HB2.out⟩
          case measure => simp [intOf]; omega
      · obtain rfl : k = l.length := by omega
        go_wp2
        go_ret
        exact ⟨⟨_, rfl⟩, HB.out⟩

set_option maxHeartbeats 1600000 in
theorem l5Text_w (v : Value) (l : List (Int × ByteArray)) (w : World) (hr : Rows w v l.length 2 (folds l)) (hl : l.length ≤ 10) (hz : ∀ p ∈ l, p.2.size ≤ 100) :
    Calls Tryz.prog 95 #[v] w (RetLen 1070 w) := by
  obtain ⟨a, cap, rfl, _, _, _, _, hcells⟩ := hr
  have HC := Lib.hid hcells; have HZ := Lib.hid hz
  clear hcells hz
  go_enter Tryz.func95, Tryz.ntmps95
  go_wp2
  go_loopw [3, 4] (fun n i wr => ∃ (k : Nat) (s : ByteArray), k ≤ l.length ∧ i = .int .i64 k ∧ n = .string s ∧ s.size ≤ 107 * k ∧ Below w.heap.size w wr) (fun _ i _ => l.length - (intOf i).toNat)
  case atStart => exact ⟨0, ⟨#[]⟩, Nat.zero_le _, rfl, rfl, Nat.le_refl _, Below.refl _ _⟩
  case round =>
    obtain ⟨k, s, hk, rfl, rfl, hsz, hb⟩ := hrel
    have HB := Lib.hid hb; clear hb
    by_cases hlt : k < l.length
    · obtain ⟨b, off, rfl, c1, c2⟩ := fold_cells (HC.out.keep HB.out) k hlt
      have hki : (k : Int) < (l.length : Int) := by omega
      have hk0 : (0 : Int) ≤ (k : Int) := by omega
      have hx := HZ.out _ (List.getElem_mem hlt)
      generalize l[k] = p at c1 c2 hx
      obtain ⟨pa, px⟩ := p
      dsimp only at c1 c2 hx
      by_cases h0 : 0 < k
      · have hkp : (0 : Int) < (k : Int) := by omega
        go_wp2_with (go_at_call 142; refine (l5Format_w pa px _ (by omega)).mono ?_; rintro e w2 ⟨⟨t, rfl, ht⟩, hb2⟩; have HB2 := Lib.hid (HB.out.trans (hb2.mono HB.out.size)); clear hb2)
        go_roundw
        case rel => exact ⟨k + 1, _, by omega, by go_num, rfl, by simp only [ByteArray.size_append]; show _ + 1 + _ ≤ _; omega, HB2.out⟩
        case measure => simp [intOf]; omega
      · have hkp : ¬ (0 : Int) < (k : Int) := by omega
        go_wp2_with (go_at_call 142; refine (l5Format_w pa px _ (by omega)).mono ?_; rintro e w2 ⟨⟨t, rfl, ht⟩, hb2⟩; have HB2 := Lib.hid (HB.out.trans (hb2.mono HB.out.size)); clear hb2)
        go_roundw
        case rel => exact ⟨k + 1, _, by omega, by go_num, rfl, by simp only [ByteArray.size_append]; omega, HB2.out⟩
        case measure => simp [intOf]; omega
    · obtain rfl : k = l.length := by omega
      go_wp2
      go_ret
      exact ⟨⟨_, rfl, by omega⟩, HB.out⟩

set_option maxHeartbeats 1600000 in
theorem atoms_any {v : Value} {m g B : Nat} {w0 w : World} (h : Read v m g B w0 w) (hB : B ≤ 700000000) :
    Calls Tryz.prog 93 #[.pointer (some ⟨g, 0, none⟩)] w (DrawnL v m g (B + 100) w w0 4 okAs) := by
  have h1 := h.1
  have hg := h1.lt
  have HO := Lib.hid (World.ownsRow_made (base := w.heap.size) (e := 161) (size := 2) w #[] 0 (Nat.le_refl _) (by unfold maxLen; omega) rfl)
  have HA := Lib.hid ((Read.refl h1).alloc (.cells #[] 161))
  have HH := Lib.hid h; have HN := Lib.hid h1; clear h h1
  go_enter Tryz.func93, Tryz.ntmps93
  go_wp2_with (go_at_call 45; refine (pick_any 4 (Read.refl HA.out.1) (by omega) (by omega) (by omega)).mono ?_; rintro e w1 ⟨⟨ra, rfl, hra⟩, hd⟩; have H1 := Lib.hid (HA.out.trans hd); have O1 := Lib.hid (own_read HO.out hd hg); clear hd HA HO)
  go_loopw [3, 4] (fun lv n wr => ∃ (l : List (Int × ByteArray)) (k : Nat), n = .int .i64 k ∧ l.length + k ≤ 4 ∧ wr.ownsRow w.heap.size 161 2 lv l.length (folds l) ∧ Hid (∀ p ∈ l, okAs p.1 p.2) ∧ Read v m g (B + 2 + 10 * l.length) w wr) (fun _ n _ => (intOf n).toNat)
  case atStart => exact ⟨[], 1 + ra, by go_num, by simp; omega, O1.out, Lib.hid (by simp), H1.out⟩
  clear O1 H1
  case round =>
    obtain ⟨l, k, rfl, hk, hown, HK, hd⟩ := hrel
    have O := Lib.hid hown; have H := Lib.hid hd
    clear hown hd
    by_cases h0 : 0 < k
    · have hk1 : (0 : Int) < (k : Int) := by omega
      go_wp2_with (first
        | (at_builtin; have HO2 := O1; refine app_atom rfl _ _ rfl w.heap.size _ l.length (folds l) rfl (O1.out.alloc _) ⟨_, 0, none⟩ 1 pa px rfl (atom_news _ pa px _) (by omega) (by have := H1.out.2.size; rw [World.size_alloc]; omega) ?_; intro v2 w2 hown2 hg2)
        | (go_at_call 141; refine (atom_any (Read.refl H.out.1) (by omega)).mono ?_; rintro e w1 ⟨⟨pa, px, rfl, hpa⟩, hd⟩; have O1 := Lib.hid (own_read O.out hd hg); have H1 := Lib.hid (H.out.trans hd); have KP := Lib.hid hpa; clear hd hpa))
      have H2 := Lib.hid ((H1.out.alloc (.cells #[.int .i64 pa, .string px] 161)).grownNew HN.out hg2 (fun j hj => (O1.out.lt j hj).1))
      have O2 := Lib.hid hown2
      clear O H O1 H1 hown2 hg2
      go_roundw
      case rel => exact ⟨l ++ [(pa, px)], k - 1, by go_num, by simp; omega, by have := O2.out; rw [List.length_append, folds_snoc]; exact this, Lib.hid (by intro p hp; rcases List.mem_append.1 hp with hp | hp; exact HK.out p hp; rw [List.mem_singleton.1 hp]; exact KP.out), by have := H2.out; rw [List.length_append]; exact this.mono (by simp; omega)⟩
      case measure => simp [intOf]; omega
    · have hk1 : ¬ (0 : Int) < (k : Int) := by omega
      go_wp2
      go_ret
      exact ⟨⟨_, l, rfl, O.out, by omega, HK.out⟩, HH.out.trans (H.out.mono (show B + 2 + 10 * l.length ≤ B + 100 by omega))⟩

set_option maxHeartbeats 800000 in
theorem translation_any {v : Value} {m g B : Nat} {w0 w : World} (h : Read v m g B w0 w) (hB : B ≤ 700000000) :
    Calls Tryz.prog 46 #[.pointer (some ⟨g, 0, none⟩)] w (DrawnS v m g (B + 100) w0 1070) := by
  have HD := Lib.hid (Read.refl h.1)
  have HH := Lib.hid h
  clear h
  go_enter Tryz.func46, Tryz.ntmps46
  go_wp2_with (first
    | (go_at_call 95; have hx := H2; refine (l5Text_w _ la _ (HR.out.keep hb2) (by omega) HZ.out).mono ?_; rintro e w3 ⟨⟨t, rfl, ht⟩, hb⟩; have H3 := Lib.hid (H2.out.onB hb); clear hb hx)
    | (go_at_call 94; have hx := H1; refine (l5List_w _ la _ HR.out (by omega) HZ.out).mono ?_; rintro e w2 ⟨⟨ba, rfl⟩, hb2⟩; have H2 := Lib.hid (H1.out.onB hb2); clear hx)
    | (go_at_call 93; refine (atoms_any HD.out (by omega)).mono ?_; rintro e w1 ⟨⟨lv, la, rfl, hown, hl, hk⟩, hd⟩; have H1 := Lib.hid hd; have HR := Lib.hid (Rows.of_own hown); have HZ := Lib.hid (fun p hp => Nat.le_trans (Pl.atomOk_prt (hk p hp)).2 (by omega) : ∀ p ∈ la, p.2.size ≤ 100); clear hd hown hk))
  all_goals go_ret
  all_goals first | exact ⟨⟨_, rfl, by decide⟩, HH.out.trans H2.out⟩ | exact ⟨⟨_, rfl, ht⟩, HH.out.trans H3.out⟩

end Go.Proofs.YtdidgaibgkdjoaaGreatDoor
