/-
  CONTRACTS: the laws' own copy of a stack of layers, each layer in an interval of blocks of its own; the marks in a stack.
-/
import Derived.Test.YtdidgaibgkdjoaaGreatDoorLayT
import Derived.Test.YtdidgaibgkdjoaaGreatDoorGrD
namespace Go.Proofs.YtdidgaibgkdjoaaGreatDoor
open Go.RowKit

/-- the first k layers as they were laid, each in an interval of blocks of its own -/
def LayToI (w : World) (c : Nat → Nat) (xs : List Value) (l : List Lay) (k : Nat) : Prop :=
  ∀ (j : Nat) (h : j < l.length), j < k → ∃ u, xs[j * 2]? = some u ∧ xs[j * 2 + 1]? = some (.bool (l[j]).2) ∧ OwnEnts w (c j) u (l[j]).1 (c (j + 1))
theorem LayToI.keep {w w' : World} {c : Nat → Nat} {xs : List Value} {l : List Lay} {k : Nat} (h : LayToI w c xs l k) (hb : Below w.heap.size w w') : LayToI w' c xs l k := by
  intro j hj hk
  obtain ⟨u, e1, e2, e3⟩ := h j hj hk
  exact ⟨u, e1, e2, e3.keep hb⟩
/-- the intervals lie one behind the other, all behind the block g -/
def Steps (c : Nat → Nat) (g k : Nat) : Prop := (∀ j, j < k → c j ≤ c (j + 1)) ∧ g < c 0
theorem Steps.mono {c : Nat → Nat} {g k : Nat} (h : Steps c g k) : ∀ j, j ≤ k → c 0 ≤ c j := by
  intro j
  induction j with
  | zero => intro _; exact Nat.le_refl _
  | succ j ih => intro hj; exact Nat.le_trans (ih (by omega)) (h.1 j (by omega))
theorem Steps.to {c : Nat → Nat} {g k : Nat} (h : Steps c g k) : ∀ j i, j ≤ i → i ≤ k → c j ≤ c i := by
  intro j i
  induction i with
  | zero => intro h1 _; rw [show j = 0 by omega]; exact Nat.le_refl _
  | succ i ih =>
    intro h1 h2
    rcases Nat.lt_or_ge j (i + 1) with h3 | h3
    · exact Nat.le_trans (ih (by omega) (by omega)) (h.1 i (by omega))
    · rw [show j = i + 1 by omega]; exact Nat.le_refl _
theorem LayToI.next {w1 : World} {c : Nat → Nat} {xs : List Value} {l : List Lay} {k base : Nat} {g : Nat} {u : Value} (h : LayToI w1 c xs l k) (hk : k < l.length) (hxl : xs.length = l.length * 2) (hs : Steps c g k) (hck : c k ≤ base)
    (hu : OwnEnts w1 base u (l[k]).1 w1.heap.size) (hb : base ≤ w1.heap.size) :
    ∃ c', LayToI ((w1.setCell ⟨g, k * 2, none⟩ u).setCell ⟨g, k * 2 + 1, none⟩ (.bool (l[k]).2)) c' ((xs.set (k * 2) u).set (k * 2 + 1) (.bool (l[k]).2)) l (k + 1) ∧ Steps c' g (k + 1) ∧ c' (k + 1) = w1.heap.size := by
  have hmono := hs.mono
  obtain ⟨hc, hg⟩ := hs
  refine ⟨fun j => if j ≤ k then c j else w1.heap.size, fun j hj hjk => ?_, ⟨fun j hjk => ?_, ?_⟩, ?_⟩
  · by_cases he : j < k
    · obtain ⟨v, e1, e2, e3⟩ := h j hj he
      have hgj : g < c j := Nat.lt_of_lt_of_le hg (hmono j (by omega))
      refine ⟨v, ?_, ?_, ?_⟩
      · rw [List.getElem?_set_ne (by omega), List.getElem?_set_ne (by omega)]; exact e1
      · rw [List.getElem?_set_ne (by omega), List.getElem?_set_ne (by omega)]; exact e2
      · dsimp only
        rw [if_pos (by omega), if_pos (by omega)]
        exact (e3.setLow hgj).setLow hgj
    · obtain rfl : j = k := by omega
      have hgj : g < c j := Nat.lt_of_lt_of_le hg (hmono j (Nat.le_refl _))
      refine ⟨u, ?_, ?_, ?_⟩
      · rw [List.getElem?_set_ne (by omega), List.getElem?_set_self (by omega)]
      · rw [List.getElem?_set_self (by rw [List.length_set]; omega)]
      · dsimp only
        rw [if_pos (Nat.le_refl _), if_neg (by omega)]
        exact ((hu.setLow (by omega)).setLow (by omega)).base hck
  · by_cases he : j < k
    · simp only [if_pos (show j ≤ k by omega), if_pos (show j + 1 ≤ k by omega)]
      exact hc j he
    · obtain rfl : j = k := by omega
      simp only [if_pos (Nat.le_refl j), if_neg (show ¬ j + 1 ≤ j by omega)]
      exact Nat.le_trans hck hb
  · simp only [if_pos (Nat.zero_le k)]; exact hg
  · simp only [if_neg (show ¬ k + 1 ≤ k by omega)]

/-- layers in memory of the call's own, between two blocks -/
def OwnLaysI (w : World) (lo : Nat) (v : Value) (l : List Lay) (hi : Nat) : Prop :=
  ∃ g xs c, v = .slice (some ⟨g, 0, none⟩) l.length l.length ∧ w.ownsRow lo 96 2 v l.length xs ∧ LayToI w c xs l l.length ∧ Steps c g l.length ∧ lo ≤ g ∧ c l.length ≤ hi ∧ hi ≤ w.heap.size
theorem OwnLaysI.lays {w : World} {lo hi : Nat} {v : Value} {l : List Lay} (h : OwnLaysI w lo v l hi) : Lays w v l := by
  obtain ⟨g, xs, c, rfl, h2, h3, _⟩ := h
  obtain ⟨a, cap, e, h4, h5, h6, h7, h8⟩ := Rows.of_own h2
  cases e
  refine ⟨_, _, rfl, h4, h5, (fun h => nomatch h), fun k hk => ?_⟩
  obtain ⟨u, e1, e2, e3⟩ := h3 k hk hk
  obtain ⟨b1, o1, q1, c1⟩ := h8 _ _ e1
  obtain ⟨b2, o2, q2, c2⟩ := h8 _ _ e2
  cases q1
  cases q2
  exact ⟨_, _, u, rfl, c1, by simpa [Nat.add_assoc] using c2, e3.ents⟩
theorem OwnLaysI.keep {w w' : World} {lo hi : Nat} {v : Value} {l : List Lay} (h : OwnLaysI w lo v l hi) (hb : Below w.heap.size w w') : OwnLaysI w' lo v l hi := by
  obtain ⟨g, xs, c, h1, h2, h3, h4, h5, h6, h7⟩ := h
  exact ⟨g, xs, c, h1, own_keep h2 hb, h3.keep hb, h4, h5, h6, Nat.le_trans h7 hb.size⟩
theorem OwnLaysI.drew {w : World} {lo hi : Nat} {v : Value} {l : List Lay} (h : OwnLaysI w lo v l hi) : OwnLaysI w.drew lo v l hi := h
theorem OwnLaysI.base {w : World} {lo lo' hi : Nat} {v : Value} {l : List Lay} (h : OwnLaysI w lo v l hi) (hl : lo' ≤ lo) : OwnLaysI w lo' v l hi := by
  obtain ⟨g, xs, c, h1, h2, h3, h4, h5, h6, h7⟩ := h
  exact ⟨g, xs, c, h1, own_base h2 hl, h3, h4, Nat.le_trans hl h5, h6, h7⟩
theorem OwnLaysI.hi {w : World} {lo hi hi' : Nat} {v : Value} {l : List Lay} (h : OwnLaysI w lo v l hi) (hh : hi ≤ hi') (h2 : hi' ≤ w.heap.size) : OwnLaysI w lo v l hi' := by
  obtain ⟨g, xs, c, h1, h2', h3, h4, h5, h6, h7⟩ := h
  exact ⟨g, xs, c, h1, h2', h3, h4, h5, Nat.le_trans h6 hh, h2⟩
theorem OwnLaysI.setLow {w : World} {lo hi R i : Nat} {v x : Value} {l : List Lay} (h : OwnLaysI w lo v l hi) (hR : R < lo) : OwnLaysI (w.setCell ⟨R, i, none⟩ x) lo v l hi := by
  obtain ⟨g, xs, c, h1, h2, h3, h4, h5, h6, h7⟩ := h
  refine ⟨g, xs, c, h1, own_set_low h2 hR, fun j hj hk => ?_, h4, h5, h6, by rw [size_setCell]; exact h7⟩
  obtain ⟨u, e1, e2, e3⟩ := h3 j hj hk
  have h8 := h4.mono j (by omega)
  have h9 := h4.2
  exact ⟨u, e1, e2, e3.setLow (by omega)⟩
theorem OwnLaysI.wid {w w' : World} {lo hi a b : Nat} {v : Value} {l : List Lay} (h : OwnLaysI w lo v l hi) (hw : Wid a b w w') (hd : hi ≤ a ∨ b ≤ lo) : OwnLaysI w' lo v l hi := by
  obtain ⟨g, xs, c, rfl, h2, h3, h4, h5, h6, h7⟩ := h
  have hg : g < hi := by have := h4.mono l.length (Nat.le_refl _); have := h4.2; omega
  refine ⟨g, xs, c, rfl, own_wid h2 hw (fun k hk => by have hk' : g = k := Option.some.inj hk; omega), fun j hj hk => ?_, h4, h5, h6, Nat.le_trans h7 hw.size⟩
  obtain ⟨u, e1, e2, e3⟩ := h3 j hj hk
  have h8 := h4.mono j (by omega)
  have h9 := h4.2
  have h10 := h4.to (j + 1) l.length (by omega) (Nat.le_refl _)
  exact ⟨u, e1, e2, e3.wid hw (by omega)⟩
def RetLaysI (w : World) (l : List Lay) (e : Ending) (w' : World) : Prop := ∃ v, e = .returned v ∧ OwnLaysI w' w.heap.size v l w'.heap.size ∧ Below w.heap.size w w'

set_option maxRecDepth 20000 in
set_option maxHeartbeats 1600000 in
theorem toLayerSI_any (v : Value) (l : List Lay) (w : World) (hr : Lays w v l) (hf : LaysFit l) :
    Calls Tryz.prog 56 #[v] w (RetLaysI w l) := by
  have hl := hf.1
  have HE := Lib.hid hr; have HF := Lib.hid hf
  obtain ⟨i0, hi, hz0, hz1, hz2⟩ := info_parts Tryz.infoLay
  obtain ⟨a, cap, rfl, _, _⟩ := lay_form hr
  clear hr hf
  go_enter Tryz.func56, Tryz.ntmps56
  go_wp2_with (at_make; refine wpList_make_full _ rfl _ _ 47 rfl w.heap.size 96 i0 (.agg #[.slice none 0 0, .bool false]) 2 Tryz.underlying47 hi hz0 hz1 .i64 .i64 _ _ l.length rfl rfl rfl rfl ?c2 ?c3 (Nat.le_refl _) ?_)
  case c2 => rw [hz2]; omega
  case c3 => unfold maxLen; omega
  intro w1 hown1 hg1
  have hb0 : Below w.heap.size w w1 := (Below.refl _ _).grown hg1 (Nat.le_refl _) (fun k h => by cases h)
  obtain ⟨zs, hown1⟩ : ∃ zs, w1.ownsRow w.heap.size 96 2 (.slice (some ⟨w.heap.size, 0, none⟩) l.length l.length) l.length zs := ⟨_, hown1⟩
  have HO := Lib.hid hown1; have HB := Lib.hid hb0
  have hw1 : w.heap.size < w1.heap.size := by
    rcases Joins.ownsRow_forms hown1 with ⟨h1, _⟩ | ⟨g, c, h1⟩
    · cases h1
    · exact (hown1.lt w.heap.size rfl).2
  have HS := Lib.hid hw1
  clear hown1 hg1 hb0 hz0 hz1 hz2 hi hw1
  go_wp2
  go_loopw [4] (fun i wr => ∃ (k : Nat) (xs : List Value) (c : Nat → Nat), k ≤ l.length ∧ i = .int .i64 k ∧ Hid (wr.ownsRow w.heap.size 96 2 (.slice (some ⟨w.heap.size, 0, none⟩) l.length l.length) l.length xs) ∧ Hid (LayToI wr c xs l k) ∧ Hid (Steps c w.heap.size k ∧ c k ≤ wr.heap.size) ∧ Below w.heap.size w wr) (fun i _ => l.length - (intOf i).toNat)
  case atStart => exact ⟨0, zs, fun _ => w1.heap.size, Nat.zero_le _, rfl, HO, Lib.hid (fun j hj hk => by omega), Lib.hid ⟨⟨fun j hj => by omega, HS.out⟩, Nat.le_refl _⟩, HB.out⟩
  clear HO HB HS
  case round =>
    obtain ⟨k, xs, c, hk, rfl, HO, HT, HG, hb⟩ := hrel
    have HB := Lib.hid hb; clear hb
    by_cases hlt : k < l.length
    · obtain ⟨b, off, u, rfl, c1, c2, c3⟩ := lay_at (HE.out.keep HB.out) k hlt
      have hs := HF.out.at k hlt
      have hki : (k : Int) < (l.length : Int) := by omega
      have HX := Lib.hid (show xs.length = l.length * 2 from HO.out.1)
      obtain ⟨z1, d1⟩ : ∃ z, wr.cell? ⟨w.heap.size, k * 2, none⟩ = some z := by
        rw [HO.out.cellAt (k * 2) (by omega)]
        exact ⟨_, List.getElem?_eq_getElem (by rw [HX.out]; omega)⟩
      obtain ⟨z2, d2⟩ : ∃ z, wr.cell? ⟨w.heap.size, k * 2 + 1, none⟩ = some z := by
        rw [HO.out.cellAt (k * 2 + 1) (by omega)]
        exact ⟨_, List.getElem?_eq_getElem (by rw [HX.out]; omega)⟩
      have HE1 := Lib.hid (toLayer_any u (l[k]'hlt).1 (l[k]'hlt).2 wr c3 hs)
      have HNX := Lib.hid (fun (w1 : World) (u : Value) (h : LayToI w1 c xs l k) (h2 : OwnEnts w1 wr.heap.size u (l[k]'hlt).1 w1.heap.size) (h3 : wr.heap.size ≤ w1.heap.size) => LayToI.next (g := w.heap.size) h hlt HX.out HG.out.1 HG.out.2 h2 h3)
      generalize l[k] = p at c1 c2 c3 hs HE1 HNX
      obtain ⟨pl, py⟩ := p
      obtain ⟨au, cu, rfl, _, _⟩ := ent_form c3
      clear c3 hs
      go_wp2_with (go_at_call 104; refine HE1.out.mono ?_; rintro e w2 ⟨u2, rfl, ho2, hb2⟩; obtain ⟨a2, k2, rfl, _, _⟩ := ent_form ho2.ents; have HO2 := Lib.hid (own_keep HO.out hb2); have f1 := keepcE hb2 d1; have f2 := keepcE hb2 d2; have g1 := HO2.out.frozenAt (k * 2); have g2 := HO2.out.frozenAt (k * 2 + 1); have HT2 := Lib.hid (HT.out.keep hb2); have HU2 := Lib.hid ho2; have HB2 := Lib.hid (HB.out.trans (hb2.mono HB.out.size)); have HZ2 := Lib.hid hb2.size; clear ho2 hb2)
      go_roundw
      case rel =>
        have h1 := (HO2.out.stored (k * 2) (.slice a2 pl.length k2)).1
        have h2 := (h1.stored (k * 2 + 1) (.bool py)).1
        obtain ⟨c', t1, t2, t3⟩ := HNX.out w2 (.slice a2 pl.length k2) HT2.out HU2.out HZ2.out
        exact ⟨k + 1, _, c', by omega, by go_num, Lib.hid h2, Lib.hid t1, Lib.hid ⟨t2, by rw [size_setCell, size_setCell, t3]; exact Nat.le_refl _⟩, (HB2.out.setCell (Nat.le_refl _) _).setCell (Nat.le_refl _) _⟩
      case measure => simp [intOf]; omega
    · obtain rfl : k = l.length := by omega
      go_wp2
      go_ret
      exact ⟨_, rfl, ⟨w.heap.size, xs, c, rfl, HO.out, HT.out, HG.out.1, Nat.le_refl _, HG.out.2, Nat.le_refl _⟩, HB.out⟩

/-- a stack laid anew -/
def RetStackI (w : World) (l : List Lay) (e : Ending) (w' : World) : Prop := ∃ v, e = .returned (.agg #[v]) ∧ OwnLaysI w' w.heap.size v l w'.heap.size ∧ Below w.heap.size w w'

set_option maxRecDepth 20000 in
set_option maxHeartbeats 1600000 in
theorem toStackI_any (v : Value) (l : List Lay) (w : World) (hr : Lays w v l) (hf : LaysFit l) :
    Calls Tryz.prog 18 #[.agg #[v]] w (RetStackI w l) := by
  obtain ⟨W, hW⟩ : ∃ W, W = ((w.alloc (.cells #[v] 42)).alloc (.cells #[.slice none 0 0] 49)).alloc (.cells #[.slice none 0 0] 49) := ⟨_, rfl⟩
  have hB : Below w.heap.size w W := by rw [hW]; exact (((Below.refl _ _).alloc (Nat.le_refl _) _).alloc (by rw [World.size_alloc]; omega) _).alloc (by rw [World.size_alloc, World.size_alloc]; omega) _
  have hz : W.heap.size = w.heap.size + 1 + 1 + 1 := by rw [hW, World.size_alloc, World.size_alloc, World.size_alloc]
  have HI := Lib.hid (toLayerSI_any v l W (hr.keep hB) hf)
  obtain ⟨av, cv, rfl, _, _⟩ := lay_form hr
  have c0 : W.cell? ⟨w.heap.size, 0, none⟩ = some (.slice av l.length cv) := by rw [hW]; simp [go_sem]
  have d0 : W.cell? ⟨w.heap.size + 1, 0, none⟩ = some (.slice none 0 0) := by rw [hW]; simp [go_sem]
  have e0 : W.cell? ⟨w.heap.size + 1 + 1, 0, none⟩ = some (.slice none 0 0) := by rw [hW]; simp [go_sem]
  have fd : ∀ i, W.frozen? ⟨w.heap.size + 1, i, none⟩ = false := fun i => by rw [hW]; simp [go_sem]
  have fe : ∀ i, W.frozen? ⟨w.heap.size + 1 + 1, i, none⟩ = false := fun i => by rw [hW]; simp [go_sem]
  have C0 := Lib.hid c0; have D0 := Lib.hid d0; have E0 := Lib.hid e0; have FD := Lib.hid fd; have FE := Lib.hid fe
  have HB := Lib.hid hB
  have HW := Lib.hid hW
  have HZ := Lib.hid hz
  clear c0 d0 e0 fd fe hB hW hr hf
  go_enter Tryz.func18, Tryz.ntmps18
  go_upto_region 2 with fail
  rw [← HW.out]
  have g0 := C0.out
  clear hz
  go_wp2_with (go_at_call 56; refine HI.out.mono ?_; rintro e w1 ⟨u1, rfl, hown, hb1⟩; obtain ⟨a1, k1, rfl, _, _⟩ := lay_form hown.lays; have hlt : w.heap.size + 1 + 1 < w1.heap.size := (by have := hb1.size; rw [HZ.out] at this; omega); have d0 := keepcE hb1 D0.out; have e0 := keepcE hb1 E0.out; have fd0 := ((bcell hb1).2 _ 0 (by rw [HZ.out]; omega)).trans (FD.out 0); have fe0 := ((bcell hb1).2 _ 0 (by rw [HZ.out]; omega)).trans (FE.out 0); have HO := Lib.hid hown; have HB1 := Lib.hid (HB.out.trans (hb1.mono HB.out.size)); clear hown hb1)
  refine bodyPost_ret (v := .agg #[.slice a1 l.length k1]) (by simp [results, Tryz.results18, go_sem, *]) rfl ⟨_, rfl, ?_, ?_⟩
  · have h1 : w.heap.size + 1 < W.heap.size := by rw [HZ.out]; omega
    have h2 : w.heap.size + 1 + 1 < W.heap.size := by rw [HZ.out]; omega
    exact (((HO.out.setLow h2).setLow h1).base (by rw [HZ.out]; omega)).hi (by rw [size_setCell, size_setCell]; exact Nat.le_refl _) (Nat.le_refl _)
  · have hB1 := HB1.out
    exact (by repeat (first | with_reducible exact Below.refl _ _ | with_reducible assumption | with_reducible refine Below.alloc ?_ ?_ _ | with_reducible refine Below.setCell ?_ ?_ _ | with_reducible refine Below.drew ?_ | with_reducible refine below_drewN ?_ _ | with_reducible refine Below.trans ?_ (Below.mono (by assumption) ?_) | omega | ((repeat (first | rw [World.size_alloc] | rw [size_setCell] | rw [size_drewN] | rw [size_drew])); omega) | exact Nat.le_refl _ | (dsimp only; omega) | (simp [World.setCell]; omega)))

/-- what is left of the layers from the k-th on -/
def LayFrom (w : World) (c : Nat → Nat) (xs : List Value) (l : List Lay) (k : Nat) : Prop :=
  ∀ (j : Nat) (h : j < l.length), k ≤ j → ∃ u, xs[j * 2]? = some u ∧ OwnEnts w (c j) u (l[j]).1 (c (j + 1))
theorem LayFrom.next {w w' : World} {c : Nat → Nat} {xs ys : List Value} {l : List Lay} {k lo g : Nat} (h : LayFrom w c xs l k) (hc : Steps c g l.length) (_hk : k < l.length) (hw : Wid lo (c (k + 1)) w w') (hy : ∀ j, k < j → ys[j * 2]? = xs[j * 2]?) : LayFrom w' c ys l (k + 1) := by
  intro j hj hkj
  obtain ⟨u, e1, e3⟩ := h j hj (by omega)
  exact ⟨u, by rw [hy j (by omega)]; exact e1, e3.wid hw (.inr (hc.to (k + 1) j (by omega) (by omega)))⟩

set_option maxRecDepth 20000 in
set_option maxHeartbeats 3200000 in
theorem markLayerS_any (v : Value) (l : List Lay) (lo hi : Nat) (k0 : Int) (w : World) (hr : OwnLaysI w lo v l hi) (hf : LaysFit l) (h0 : 0 ≤ k0) (h1 : k0 ≤ 1000000000) :
    Calls Tryz.prog 61 #[v, .int .i64 k0] w fun e w' => (∃ r : Int, e = .returned (.int .i64 r) ∧ k0 ≤ r ∧ r ≤ k0 + 1200000000000000000) ∧ Wid lo hi w w' := by
  obtain ⟨g, xs, c, rfl, h2, h3, h4, h5, h6, h7⟩ := hr
  have HF := Lib.hid hf
  have hl := hf.1
  have HC := Lib.hid h4
  have HM := Lib.hid h4.mono
  have HU := Lib.hid (fun j (hj : j ≤ l.length) => Nat.le_trans (h4.to j l.length hj (Nat.le_refl _)) h6)
  have HG := Lib.hid h4.2
  have HL := Lib.hid h5
  have HO := Lib.hid h2
  have HE := Lib.hid (show LayFrom w c xs l 0 from fun j hj _ => by obtain ⟨u, e1, e2, e3⟩ := h3 j hj hj; exact ⟨u, e1, e3⟩)
  clear hf h2 h3 h4 h5 h6 h7
  go_enter Tryz.func61, Tryz.ntmps61
  go_wp2
  go_loopw [1, 5] (fun q i wr => ∃ (k : Nat) (m : Int) (ys : List Value), k ≤ l.length ∧ i = .int .i64 k ∧ q = .int .i64 m ∧ k0 ≤ m ∧ m ≤ k0 + (k : Int) * 1099513724929 ∧ Hid (wr.ownsRow lo 96 2 (.slice (some ⟨g, 0, none⟩) l.length l.length) l.length ys) ∧ Hid (LayFrom wr c ys l k) ∧ Wid lo hi w wr) (fun _ i _ => l.length - (intOf i).toNat)
  case atStart => exact ⟨0, k0, xs, Nat.zero_le _, rfl, rfl, by omega, by omega, HO, HE, Wid.refl _ _ _⟩
  clear HO HE
  case round =>
    obtain ⟨k, m, ys, hk, rfl, rfl, hm0, hm1, HO, HE, hw⟩ := hrel
    have HW := Lib.hid hw; clear hw
    by_cases hlt : k < l.length
    · obtain ⟨u, e1, e3⟩ := HE.out k hlt (Nat.le_refl _)
      have hki : (k : Int) < (l.length : Int) := by omega
      have hk0 : (0 : Int) ≤ (k : Int) := by omega
      have hx : ys.length = l.length * 2 := HO.out.1
      have d1 : wr.cell? ⟨g, k * 2, none⟩ = some u := by rw [HO.out.cellAt (k * 2) (by omega)]; exact e1
      obtain ⟨z2, d2⟩ : ∃ z, wr.cell? ⟨g, k * 2 + 1, none⟩ = some z := by
        rw [HO.out.cellAt (k * 2 + 1) (by omega)]
        exact ⟨_, List.getElem?_eq_getElem (by omega)⟩
      have hs := HF.out.at k hlt
      have HMK := Lib.hid (markEntryS_any u (l[k]).1 (c k) (c (k + 1)) m wr e3 hs (by omega) (by omega))
      obtain ⟨au, cu, rfl, _, _⟩ := ent_form e3.ents
      have hgk : g < c k := Nat.lt_of_lt_of_le HG.out (HM.out k (by omega))
      have hkl : lo ≤ c k := by have := HL.out; omega
      have hku : c (k + 1) ≤ hi := HU.out _ (by omega)
      have hck := HC.out.1 k hlt
      have HN := Lib.hid (fun (w' : World) (hw : Wid g (c (k + 1)) wr w') (zs : List Value) (hz : ∀ j, k < j → zs[j * 2]? = ys[j * 2]?) => LayFrom.next HE.out HC.out hlt hw hz)
      generalize (l[k]).1 = p at d1 HMK
      clear e1 e3 HE hs
      go_wp2_with (go_at_call 108; refine HMK.out.mono ?_; rintro e w1 ⟨⟨r, rfl, hr0, hr1⟩, hw1⟩; have HD1 := Lib.hid (show Wid g (c (k + 1)) wr w1 from hw1.wider (Nat.le_of_lt hgk) (Nat.le_refl _)); have HO1 := Lib.hid (own_wid HO.out hw1 (fun b hb => by have hb' : g = b := Option.some.inj hb; omega)); have f0 := hw1.cell d2 (.inl hgk); have g1 := HO1.out.frozenAt (k * 2 + 1); have r0 : 0 ≤ r := (by omega); clear hw1)
      go_roundw
      case rel =>
        have h2 := fun x => HO1.out.stored (k * 2 + 1) x
        have h3 := fun x => HD1.out.trans (Wid.of_grown (lo := g) (hi := c (k + 1)) (h2 x).2 (fun b hb => by have hb' : g = b := Option.some.inj hb; omega))
        exact ⟨k + 1, r + 1, _, by omega, by go_num, by go_num, by omega, by omega, Lib.hid (h2 _).1, Lib.hid (HN.out _ (h3 _) _ (even_set ys k _)), HW.out.trans ((h3 _).wider HL.out hku)⟩
      case measure => simp [intOf]; omega
    · obtain rfl : k = l.length := by omega
      go_wp2
      go_ret
      exact ⟨⟨m, rfl, hm0, by omega⟩, HW.out⟩

set_option maxHeartbeats 800000 in
theorem markStack_any (v : Value) (l : List Lay) (lo hi : Nat) (k0 : Int) (w : World) (hr : OwnLaysI w lo v l hi) (hf : LaysFit l) (h0 : 0 ≤ k0) (h1 : k0 ≤ 1000000000) :
    Calls Tryz.prog 22 #[.agg #[v], .int .i64 k0] w fun e w' => (∃ r : Int, e = .returned (.int .i64 r) ∧ k0 ≤ r ∧ r ≤ k0 + 1200000000000000000) ∧ Wid lo hi w w' := by
  have HB := Lib.hid (Joins.below_alloc1 w (.cells #[v] 49))
  have HW0 := Lib.hid (Wid.of_below lo hi HB.out)
  have HM := Lib.hid (markLayerS_any v l lo hi k0 _ (hr.keep HB.out) hf h0 h1)
  obtain ⟨a, cap, rfl, _, _⟩ := lay_form hr.lays
  clear hr hf
  go_enter Tryz.func22, Tryz.ntmps22
  go_wp2_with (go_at_call 61; (with_reducible refine HM.out.mono ?_); rintro e w1 ⟨⟨r, rfl, h2, h3⟩, hw⟩; have HW1 := Lib.hid (HW0.out.trans hw); clear hw)
  go_ret
  exact ⟨⟨r, rfl, h2, h3⟩, HW1.out⟩

end Go.Proofs.YtdidgaibgkdjoaaGreatDoor
