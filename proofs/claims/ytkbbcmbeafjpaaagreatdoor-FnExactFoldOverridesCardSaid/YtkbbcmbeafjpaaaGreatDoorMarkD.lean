/-
  CONTRACTS: the laws' own marks in a dictionary and in a slice of pieces.
-/
import Derived.Test.YtkbbcmbeafjpaaaGreatDoorWid
import Derived.Test.YtkbbcmbeafjpaaaGreatDoorMark
namespace Go.Proofs.YtkbbcmbeafjpaaaGreatDoor
open Go.RowKit

theorem pow_step {n a : Nat} (h : n < 10 ^ (20 - a)) (ha : a < 20) : n / 10 < 10 ^ (20 - (a + 1)) := by
  apply Nat.div_lt_of_lt_mul
  rw [Nat.mul_comm, ← Nat.pow_succ, show Nat.succ (20 - (a + 1)) = 20 - a by omega]
  exact h
theorem pow_end {n a : Nat} (h : n < 10 ^ (20 - a)) (hn : n ≠ 0) : a < 20 := by
  rcases Nat.lt_or_ge a 20 with h' | h'
  · exact h'
  · rw [show 20 - a = 0 by omega] at h
    simp at h
    exact absurd h hn

set_option maxRecDepth 20000 in
set_option maxHeartbeats 800000 in
theorem markText_big (k : Int) (w : World) (h0 : 0 ≤ k) (h1 : k ≤ 4000000000000000000) :
    Calls Tryz.prog 95 #[.int .i64 k] w fun e w' => e = .returned (.string (Pl.markT k)) ∧ Below w.heap.size w w' := by
  by_cases hk : k ≤ 0
  · have E := Lib.hid (show Pl.markT k = ⟨#[109, 48]⟩ from if_pos hk)
    go_enter Tryz.func95, Tryz.ntmps95
    go_wp2
    go_ret
    exact ⟨ret_str E.out.symm, Below.refl _ _⟩
  · have E := Lib.hid (show Pl.markT k = ⟨#[109]⟩ ++ ⟨(Pl.dec k.toNat []).toArray⟩ from if_neg hk)
    have HK := Lib.hid (show k.toNat < 10 ^ (20 - ([] : List UInt8).length) from Nat.lt_of_lt_of_le (show k.toNat < 10000000000000000000 by omega) (by decide))
    go_enter Tryz.func95, Tryz.ntmps95
    go_wp2
    go_loopw [0, 3] (fun q o wr => ∃ (n : Nat) (acc : List UInt8), q = .int .i64 n ∧ o = .string ⟨acc.toArray⟩ ∧ acc.length ≤ 20 ∧ (n : Int) ≤ k ∧ Hid (n < 10 ^ (20 - acc.length)) ∧ Hid (Pl.dec n acc = Pl.dec k.toNat []) ∧ Below w.heap.size w wr) (fun q _ _ => (intOf q).toNat)
    case atStart => exact ⟨k.toNat, [], by rw [Int.toNat_of_nonneg h0], rfl, by simp, by omega, HK, Lib.hid rfl, Below.refl _ _⟩
    case round =>
      obtain ⟨n, acc, rfl, rfl, hal, hnk, HP, HD, hb⟩ := hrel
      have HB := Lib.hid hb; clear hb
      have hsz : (⟨acc.toArray⟩ : ByteArray).size = acc.length := List.size_toArray
      by_cases hn : n = 0
      · have hF := Lib.hid ((Pl.dec_zero acc).symm.trans (hn ▸ HD.out))
        have hn0 : ¬ (0 : Int) < (n : Int) := by omega
        clear HD HP
        go_wp2
        go_ret
        exact ⟨ret_str (by rw [E.out, hF.out]), HB.out⟩
      · have HD2 := Lib.hid ((Pl.dec_step hn acc).symm.trans HD.out)
        have hcv := one_digit wr n
        have hnp : (0 : Int) < (n : Int) := by omega
        have HC := Lib.hid (ba_cons (UInt8.ofNat (48 + n % 10)) acc)
        have h20 := pow_end HP.out hn
        have HP2 := Lib.hid (pow_step HP.out h20)
        clear HD HP
        go_wp2
        go_roundw
        case rel => exact ⟨n / 10, UInt8.ofNat (48 + n % 10) :: acc, by go_num, congrArg Value.string (Eq.trans (by simp) HC.out), by simp only [List.length_cons]; omega, by omega, HP2, HD2, HB.out.alloc HB.out.size _⟩
        case measure => simp [intOf]; omega

/-- what is left of the entries from the k-th on: their outlines still lie where they lay -/
def EntFrom (w : World) (c : Nat → Nat) (xs : List Value) (l : List Ent) (k : Nat) : Prop :=
  ∀ (j : Nat) (h : j < l.length), k ≤ j → ∃ u, xs[j * 2]? = some u ∧ w.ownsRow (c j) 3 1 u (l[j]).1.length (ints (l[j]).1) ∧ (∀ b, u.ownBlock = some b → b < c (j + 1))
theorem EntFrom.keep {w w' : World} {c : Nat → Nat} {xs : List Value} {l : List Ent} {k : Nat} (h : EntFrom w c xs l k) (hb : Below w.heap.size w w') : EntFrom w' c xs l k := by
  intro j hj hk
  obtain ⟨u, e1, e3, e4⟩ := h j hj hk
  exact ⟨u, e1, own_keep e3 hb, e4⟩
/-- what happens below the next entry's interval does not touch what is left -/
theorem EntFrom.next {w w' : World} {c : Nat → Nat} {xs ys : List Value} {l : List Ent} {k lo : Nat} (h : EntFrom w c xs l k) (hc : ∀ j, j < l.length → c j ≤ c (j + 1)) (_hk : k < l.length) (hw : Wid lo (c (k + 1)) w w') (hy : ∀ j, k < j → ys[j * 2]? = xs[j * 2]?) : EntFrom w' c ys l (k + 1) := by
  have hmono : ∀ d, k + 1 + d ≤ l.length → c (k + 1) ≤ c (k + 1 + d) := by
    intro d
    induction d with
    | zero => intro _; exact Nat.le_refl _
    | succ d ih => intro hd; exact Nat.le_trans (ih (by omega)) (hc (k + 1 + d) (by omega))
  intro j hj hkj
  obtain ⟨u, e1, e3, e4⟩ := h j hj (by omega)
  refine ⟨u, by rw [hy j (by omega)]; exact e1, own_wid e3 hw (fun g hg => ?_), e4⟩
  have h1 := (e3.lt g hg).1
  have h2 := hmono (j - (k + 1)) (by omega)
  rw [show k + 1 + (j - (k + 1)) = j by omega] at h2
  omega

theorem even_set (xs : List Value) (k : Nat) (u : Value) : ∀ j, k < j → (xs.set (k * 2 + 1) u)[j * 2]? = xs[j * 2]? := by
  intro j hj
  rw [List.getElem?_set_ne (by omega)]

set_option maxRecDepth 20000 in
set_option maxHeartbeats 3200000 in
theorem markEntryS_any (v : Value) (l : List Ent) (lo hi : Nat) (k0 : Int) (w : World) (hr : OwnEnts w lo v l hi) (hf : EntsFit l) (h0 : 0 ≤ k0) (h1 : k0 ≤ 2000000000000000000) :
    Calls Tryz.prog 94 #[v, .int .i64 k0] w fun e w' => (∃ r : Int, e = .returned (.int .i64 r) ∧ k0 ≤ r ∧ r ≤ k0 + 1099513724928) ∧ Wid lo hi w w' := by
  obtain ⟨g, xs, c, rfl, h2, h3, h4, h5, h6, h7, h8⟩ := hr
  have hmono : ∀ j, j ≤ l.length → c 0 ≤ c j := by
    intro j
    induction j with
    | zero => intro _; exact Nat.le_refl _
    | succ j ih => intro hj; exact Nat.le_trans (ih (by omega)) (h4 j (by omega))
  have hup : ∀ j, j ≤ l.length → c j ≤ hi := by
    have : ∀ d, d ≤ l.length → c (l.length - d) ≤ c l.length := by
      intro d
      induction d with
      | zero => intro _; exact Nat.le_refl _
      | succ d ih =>
        intro hj
        have h := h4 (l.length - (d + 1)) (by omega)
        rw [show l.length - (d + 1) + 1 = l.length - d by omega] at h
        exact Nat.le_trans h (ih (by omega))
    intro j hj
    have h9 := this (l.length - j) (by omega)
    rw [show l.length - (l.length - j) = j by omega] at h9
    omega
  have HF := Lib.hid hf.2
  have hl := hf.1
  have HC := Lib.hid h4
  have HM := Lib.hid hmono
  have HU := Lib.hid hup
  have HG := Lib.hid h5
  have HL := Lib.hid h6
  have HO := Lib.hid h2
  have HE := Lib.hid (show EntFrom w c xs l 0 from fun j hj _ => by obtain ⟨u, e1, e2, e3, e4⟩ := h3 j hj hj; exact ⟨u, e1, e3, e4⟩)
  clear hf h2 h3 h4 h5 h6 h7 h8 hmono hup
  go_enter Tryz.func94, Tryz.ntmps94
  go_wp2
  go_loopw [1, 5] (fun q i wr => ∃ (k : Nat) (m : Int) (ys : List Value), k ≤ l.length ∧ i = .int .i64 k ∧ q = .int .i64 m ∧ k0 ≤ m ∧ m ≤ k0 + (k : Int) * 1048577 ∧ Hid (wr.ownsRow lo 52 2 (.slice (some ⟨g, 0, none⟩) l.length l.length) l.length ys) ∧ Hid (EntFrom wr c ys l k) ∧ Wid lo hi w wr) (fun _ i _ => l.length - (intOf i).toNat)
  case atStart => exact ⟨0, k0, xs, Nat.zero_le _, rfl, rfl, by omega, by omega, HO, HE, Wid.refl _ _ _⟩
  clear HO HE
  case round =>
    obtain ⟨k, m, ys, hk, rfl, rfl, hm0, hm1, HO, HE, hw⟩ := hrel
    have HW := Lib.hid hw; clear hw
    by_cases hlt : k < l.length
    · obtain ⟨u, e1, e3, e4⟩ := HE.out k hlt (Nat.le_refl _)
      have hki : (k : Int) < (l.length : Int) := by omega
      have hk0 : (0 : Int) ≤ (k : Int) := by omega
      have hx : ys.length = l.length * 2 := HO.out.1
      have d1 : wr.cell? ⟨g, k * 2, none⟩ = some u := by rw [HO.out.cellAt (k * 2) (by omega)]; exact e1
      obtain ⟨z2, d2⟩ : ∃ z, wr.cell? ⟨g, k * 2 + 1, none⟩ = some z := by
        rw [HO.out.cellAt (k * 2 + 1) (by omega)]
        exact ⟨_, List.getElem?_eq_getElem (by omega)⟩
      have hs : (l[k]).1.length ≤ 1048576 := (HF.out _ (List.getElem_mem hlt)).1
      generalize hp : (l[k]).1 = p at e3 hs
      have HP := Lib.hid hp; clear hp
      obtain ⟨au, cu, rfl⟩ := row_formD e3
      have HMK := Lib.hid (markIntS_any _ _ _ _ m wr e3 hs (by omega) (by omega))
      have hgk : g < c k := Nat.lt_of_lt_of_le HG.out (HM.out k (by omega))
      have HI := Lib.hid (show ∀ b, Value.ownBlock (.slice au p.length cu) = some b → c k ≤ b ∧ b < c (k + 1) from fun b hb => ⟨(e3.lt b hb).1, e4 b hb⟩)
      have hkl : lo ≤ c k := by have := HL.out; omega
      have hku : c (k + 1) ≤ hi := HU.out _ (by omega)
      have HN := Lib.hid (fun (w' : World) (hw : Wid g (c (k + 1)) wr w') (zs : List Value) (hz : ∀ j, k < j → zs[j * 2]? = ys[j * 2]?) => EntFrom.next HE.out HC.out hlt hw hz)
      clear e1 e3 e4 HE
      have m0 : (0 : Int) ≤ m + (p.length : Int) := by omega
      have m1 : m + (p.length : Int) ≤ 4000000000000000000 := by omega
      go_wp2_with (first
        | (go_at_call 95; refine (markText_big _ _ m0 m1).mono ?_; rintro e w2 ⟨rfl, hb2⟩; have HO2 := Lib.hid (own_keep HO1.out hb2); have HD2 := Lib.hid ((HD1.out).trans (Wid.of_below g (c (k + 1)) hb2)); have f1 := keepcE hb2 f0; have g1 := HO2.out.frozenAt (k * 2 + 1); clear hb2)
        | (go_at_call 35; refine HMK.out.mono ?_; rintro e w1 ⟨rfl, hwr⟩; have HD1 := Lib.hid (show Wid g (c (k + 1)) wr w1 from Wid.of_grown hwr.2 (fun b hb => by have := HI.out b hb; omega)); have HO1 := Lib.hid (HO.out.kept hwr.2 (by right; intro e; have := HI.out g e.symm; omega)); have f0 := hwr.2.cell d2 (by intro e; have := HI.out g e.symm; omega); clear hwr))
      go_roundw
      case rel =>
        have h2 := HO2.out.stored (k * 2 + 1) (.string (Pl.markT (m + (p.length : Int))))
        have h3 := HD2.out.trans (Wid.of_grown (lo := g) (hi := c (k + 1)) h2.2 (fun b hb => by have hb' : g = b := Option.some.inj hb; have := HC.out k hlt; omega))
        exact ⟨k + 1, m + (p.length : Int) + 1, _, by omega, by go_num, by go_num, by omega, by omega, Lib.hid h2.1, Lib.hid (HN.out _ h3 _ (even_set ys k _)), HW.out.trans (h3.wider HL.out hku)⟩
      case measure => simp [intOf]; omega
    · obtain rfl : k = l.length := by omega
      go_wp2
      go_ret
      exact ⟨⟨m, rfl, hm0, by omega⟩, HW.out⟩

set_option maxHeartbeats 800000 in
theorem markDictionary_any (v : Value) (l : List Ent) (lo hi : Nat) (k0 : Int) (w : World) (hr : OwnEnts w lo v l hi) (hf : EntsFit l) (h0 : 0 ≤ k0) (h1 : k0 ≤ 2000000000000000000) :
    Calls Tryz.prog 34 #[.agg #[v], .int .i64 k0] w fun e w' => (∃ r : Int, e = .returned (.int .i64 r) ∧ k0 ≤ r ∧ r ≤ k0 + 1099513724928) ∧ Wid lo hi w w' := by
  have HB := Lib.hid (Joins.below_alloc1 w (.cells #[v] 41))
  have HW0 := Lib.hid (Wid.of_below lo hi HB.out)
  have HM := Lib.hid (markEntryS_any v l lo hi k0 _ (hr.keep HB.out) hf h0 h1)
  obtain ⟨a, cap, rfl, _, _⟩ := ent_form hr.ents
  clear hr hf
  go_enter Tryz.func34, Tryz.ntmps34
  go_wp2_with (go_at_call 94; (with_reducible refine HM.out.mono ?_); rintro e w1 ⟨⟨r, rfl, h2, h3⟩, hw⟩; have HW1 := Lib.hid (HW0.out.trans hw); clear hw)
  go_ret
  exact ⟨⟨r, rfl, h2, h3⟩, HW1.out⟩

/-- the cells of n marks in pieces -/
def marksP (k0 : Int) (n : Nat) : List (Int × Int × ByteArray) := (List.range n).map fun (i : Nat) => (k0 + 3 * (i : Int), k0 + 3 * (i : Int) + 1, Pl.markT (k0 + 3 * (i : Int) + 2))
theorem marksP_length (k0 : Int) (n : Nat) : (marksP k0 n).length = n := by simp [marksP]
theorem marksP_at (k0 : Int) (n i : Nat) (h : i < (marksP k0 n).length) : (marksP k0 n)[i] = (k0 + 3 * (i : Int), k0 + 3 * (i : Int) + 1, Pl.markT (k0 + 3 * (i : Int) + 2)) := by simp [marksP]

set_option maxRecDepth 20000 in
set_option maxHeartbeats 1600000 in
theorem heldPieceS_any (v : Value) (n : Nat) (k0 : Int) (w : World) (hr : Rows w v n 3 (pieces (marksP k0 n))) (hn : n ≤ 1048576) (h0 : 0 ≤ k0) (h1 : k0 ≤ 1000000000) :
    Calls Tryz.prog 37 #[v, .int .i64 k0] w fun e w' => e = .returned (.int .i64 (k0 + 3 * n)) ∧ Below w.heap.size w w' := by
  obtain ⟨a, cap, rfl, _, _, _, _, hcells⟩ := hr
  have HC := Lib.hid hcells; clear hcells
  go_enter Tryz.func37, Tryz.ntmps37
  go_wp2
  go_loopw [1, 5] (fun q i wr => ∃ k : Nat, k ≤ n ∧ i = .int .i64 k ∧ q = .int .i64 (k0 + 3 * (k : Int)) ∧ Below w.heap.size w wr) (fun _ i _ => n - (intOf i).toNat)
  case atStart => exact ⟨0, Nat.zero_le _, rfl, by simp, Below.refl _ _⟩
  case round =>
    obtain ⟨k, hk, rfl, rfl, hb⟩ := hrel
    have HB := Lib.hid hb; clear hb
    by_cases hlt : k < n
    · obtain ⟨b, off, rfl, c1, c2, c3⟩ := piece_cells (HC.out.keep HB.out) k (by rw [marksP_length]; exact hlt)
      rw [marksP_at] at c1 c2 c3
      have hki : (k : Int) < (n : Int) := by omega
      have hk00 : (0 : Int) ≤ (k : Int) := by omega
      have c1' : wr.cell? ⟨b, off + k * 3, none⟩ = some (.int .i64 (k0 + 3 * (k : Int))) := c1
      have c2' : wr.cell? ⟨b, off + k * 3 + 1, none⟩ = some (.int .i64 (k0 + 3 * (k : Int) + 1)) := c2
      have c3' : wr.cell? ⟨b, off + k * 3 + 2, none⟩ = some (.string (Pl.markT (k0 + 3 * (k : Int) + 2))) := c3
      clear c1 c2 c3
      have m0 : (0 : Int) ≤ k0 + 3 * (k : Int) + 1 + 1 := by omega
      have m1 : k0 + 3 * (k : Int) + 1 + 1 ≤ 4000000000000000000 := by omega
      have hT0 : Pl.markT (k0 + 3 * (k : Int) + 1 + 1) = Pl.markT (k0 + 3 * (k : Int) + 2) := congrArg _ (by omega)
      generalize Pl.markT (k0 + 3 * (k : Int) + 2) = T at c3' hT0
      have HT := Lib.hid hT0; clear hT0
      go_upto_region 10 with fail
      go_region_held3 (fun w' => w'.cell? ⟨b, off + k * 3 + 2, none⟩ = some (.string T)) (first | exact e1 | exact c3') (first
        | (go_at_call 95; refine (markText_big _ _ m0 m1).mono ?_; rintro e w1 ⟨he, hb1⟩; rw [HT.out] at he; subst he; have e1 := keepc hb1 c3'))
      go_wp2
      go_roundw
      case rel => exact ⟨k + 1, by omega, by go_num, by go_num, (below_drew1 HB.out).trans (hb1.mono HB.out.size)⟩
      case measure => simp [intOf]; omega
    · obtain rfl : k = n := by omega
      go_wp2
      go_ret
      exact ⟨rfl, HB.out⟩

set_option maxRecDepth 20000 in
set_option maxHeartbeats 1600000 in
theorem markPieceS_any (v : Value) (xs : List Value) (n base : Nat) (k0 : Int) (w : World) (hr : w.ownsRow base 127 3 v n xs) (hn : n ≤ 1048576) (h0 : 0 ≤ k0) (h1 : k0 ≤ 1000000000) :
    Calls Tryz.prog 36 #[v, .int .i64 k0] w fun e w' => e = .returned (.int .i64 (k0 + 3 * n)) ∧ Wrote 127 3 base w v n (pieces (marksP k0 n)) w' := by
  have hxl : (pieces (marksP k0 n)).length = xs.length := by rw [pieces_length, marksP_length, hr.1]
  have hml := marksP_length k0 n
  have hr0 := hr
  rcases hr.2 with ⟨rfl, rfl⟩ | ⟨g, cap, cur, rfl, _⟩
  · go_enter Tryz.func36, Tryz.ntmps36
    go_wp2
    go_loop [1, 5] (fun q i => i = .int .i64 0 ∧ q = .int .i64 k0) (fun _ _ => 0)
    case atStart => exact ⟨rfl, rfl⟩
    case round =>
      obtain ⟨rfl, rfl⟩ := hrel
      go_wp2
      go_ret
      exact ⟨by simp, World.ownsRow_nil _ _ _ _, World.grownBy.refl _ _⟩
  · have HR := Lib.hid hr0; have HL := Lib.hid hxl
    clear hr hr0 hxl
    go_enter Tryz.func36, Tryz.ntmps36
    go_wp2
    go_loopw [1, 5] (fun q i wr => ∃ k : Nat, k ≤ n ∧ i = .int .i64 k ∧ q = .int .i64 (k0 + 3 * (k : Int)) ∧ Wrote 127 3 base w (.slice (some ⟨g, 0, none⟩) n cap) n (half (pieces (marksP k0 n)) xs (k * 3)) wr) (fun _ i _ => n - (intOf i).toNat)
    case atStart => exact ⟨0, Nat.zero_le _, rfl, by simp, by rw [Nat.zero_mul, half_zero]; exact HR.out, World.grownBy.refl _ _⟩
    case round =>
      obtain ⟨k, hk, rfl, rfl, hwr⟩ := hrel
      have HW := Lib.hid hwr; clear hwr
      by_cases hlt : k < n
      · have hlen : (half (pieces (marksP k0 n)) xs (k * 3)).length = n * 3 := by rw [half_length _ _ _ HL.out, pieces_length, hml]
        have HS := Lib.hid (half_set3 (marksP k0 n) xs k HL.out (by rw [hml]; exact hlt))
        rw [marksP_at] at HS
        have hki : (k : Int) < (n : Int) := by omega
        have hk00 : (0 : Int) ≤ (k : Int) := by omega
        have m0 : (0 : Int) ≤ k0 + 3 * (k : Int) + 1 + 1 := by omega
        have m1 : k0 + 3 * (k : Int) + 1 + 1 ≤ 4000000000000000000 := by omega
        have HT := Lib.hid (show Pl.markT (k0 + 3 * (k : Int) + 1 + 1) = Pl.markT (k0 + 3 * (k : Int) + 2) from congrArg _ (by omega))
        obtain ⟨z1, d1⟩ : ∃ z, wr.cell? ⟨g, k * 3, none⟩ = some z := by
          rw [HW.out.1.cellAt (k * 3) (by omega)]
          exact ⟨_, List.getElem?_eq_getElem (by omega)⟩
        obtain ⟨z2, d2⟩ : ∃ z, wr.cell? ⟨g, k * 3 + 1, none⟩ = some z := by
          rw [HW.out.1.cellAt (k * 3 + 1) (by omega)]
          exact ⟨_, List.getElem?_eq_getElem (by omega)⟩
        have f1 := HW.out.1.frozenAt (k * 3)
        have f2 := HW.out.1.frozenAt (k * 3 + 1)
        have HO1 := Lib.hid (HW.out.1.stored (k * 3) (.int .i64 (k0 + 3 * (k : Int))))
        have HO3 := Lib.hid (HO1.out.1.stored (k * 3 + 1) (.int .i64 (k0 + 3 * (k : Int) + 1)))
        clear hlen
        go_wp2_with (go_at_call 95; refine (markText_big _ _ m0 m1).mono ?_; rintro e w1 ⟨rfl, hb1⟩; have HO2 := Lib.hid (own_keep HO3.out.1 hb1); obtain ⟨z3, d3⟩ : ∃ z, w1.cell? ⟨g, k * 3 + 2, none⟩ = some z := (by rw [HO2.out.cellAt (k * 3 + 2) (by omega)]; exact ⟨_, List.getElem?_eq_getElem (by rw [List.length_set, List.length_set, half_length _ _ _ HL.out, pieces_length, hml]; omega)⟩); have f3 := HO2.out.frozenAt (k * 3 + 2))
        go_roundw
        case rel =>
          have h3 := HO2.out.stored (k * 3 + 2) (.string (Pl.markT (k0 + 3 * (k : Int) + 1 + 1)))
          have h4 := h3.1
          have HS2 := HS.out
          rw [← HT.out] at HS2
          rw [HS2] at h4
          exact ⟨k + 1, by omega, by go_num, by go_num, h4, grownBy_trans HW.out.2 (grownBy_trans HO1.out.2 (grownBy_trans HO3.out.2 (grownBy_trans (below_grown hb1 _) h3.2)))⟩
        case measure => simp [intOf]; omega
      · obtain rfl : k = n := by omega
        go_wp2
        go_ret
        have h := HW.out.1
        rw [half_all' _ _ (k * 3) HL.out (by rw [pieces_length, hml])] at h
        exact ⟨rfl, h, HW.out.2⟩

end Go.Proofs.YtkbbcmbeafjpaaaGreatDoor
