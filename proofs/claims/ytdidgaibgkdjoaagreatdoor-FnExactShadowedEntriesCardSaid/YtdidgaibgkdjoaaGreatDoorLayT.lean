/-
  CONTRACTS: the laws' own copy of a stack of layers.
-/
import Derived.Test.YtdidgaibgkdjoaaGreatDoorLayS
import Derived.Test.YtdidgaibgkdjoaaGreatDoorBasB
namespace Go.Proofs.YtdidgaibgkdjoaaGreatDoor
open Go.RowKit

theorem Tryz.infoLay : (Tryz.prog.info? 96).map (fun i => (i.zero, i.size, i.bytes)) = some (some (.agg #[.slice none 0 0, .bool false]), 2, 32) := by kernel_rfl

/-- a layer laid anew -/
def RetLay (w : World) (l : List Ent) (y : Bool) (e : Ending) (w' : World) : Prop := ∃ u, e = .returned (.agg #[u, .bool y]) ∧ OwnEnts w' w.heap.size u l w'.heap.size ∧ Below w.heap.size w w'

set_option maxRecDepth 20000 in
set_option maxHeartbeats 1600000 in
theorem toLayer_any (u : Value) (l : List Ent) (y : Bool) (w : World) (hr : Ents w u l) (hf : EntsFit l) :
    Calls Tryz.prog 104 #[.agg #[u, .bool y]] w (RetLay w l y) := by
  obtain ⟨W, hW⟩ : ∃ W, W = ((w.alloc (.cells #[u, .bool y] 137)).alloc (.cells #[.slice none 0 0, .bool false] 96)).alloc (.cells #[.slice none 0 0, .bool false] 96) := ⟨_, rfl⟩
  have hB : Below w.heap.size w W := by rw [hW]; exact (((Below.refl _ _).alloc (Nat.le_refl _) _).alloc (by rw [World.size_alloc]; omega) _).alloc (by rw [World.size_alloc, World.size_alloc]; omega) _
  have hz : W.heap.size = w.heap.size + 1 + 1 + 1 := by rw [hW, World.size_alloc, World.size_alloc, World.size_alloc]
  have HI := Lib.hid (toDictionary_any u l W (hr.keep hB) hf)
  obtain ⟨av, cv, rfl, _, _⟩ := ent_form hr
  have c0 : W.cell? ⟨w.heap.size, 0, none⟩ = some (.slice av l.length cv) := by rw [hW]; simp [go_sem]
  have c1 : W.cell? ⟨w.heap.size, 1, none⟩ = some (.bool y) := by rw [hW]; simp [go_sem]
  have d0 : W.cell? ⟨w.heap.size + 1, 0, none⟩ = some (.slice none 0 0) := by rw [hW]; simp [go_sem]
  have d1 : W.cell? ⟨w.heap.size + 1, 1, none⟩ = some (.bool false) := by rw [hW]; simp [go_sem]
  have e0 : W.cell? ⟨w.heap.size + 1 + 1, 0, none⟩ = some (.slice none 0 0) := by rw [hW]; simp [go_sem]
  have e1 : W.cell? ⟨w.heap.size + 1 + 1, 1, none⟩ = some (.bool false) := by rw [hW]; simp [go_sem]
  have fd : ∀ i, W.frozen? ⟨w.heap.size + 1, i, none⟩ = false := fun i => by rw [hW]; simp [go_sem]
  have fe : ∀ i, W.frozen? ⟨w.heap.size + 1 + 1, i, none⟩ = false := fun i => by rw [hW]; simp [go_sem]
  have C0 := Lib.hid c0; have C1 := Lib.hid c1; have D0 := Lib.hid d0; have D1 := Lib.hid d1; have E0 := Lib.hid e0; have E1 := Lib.hid e1; have FD := Lib.hid fd; have FE := Lib.hid fe
  have HB := Lib.hid hB
  have HW := Lib.hid hW
  have HZ := Lib.hid hz
  clear c0 c1 d0 d1 e0 e1 fd fe hB hW hr hf
  go_enter Tryz.func104, Tryz.ntmps104
  go_upto_region 2 with fail
  rw [← HW.out]
  have g0 := C0.out
  clear hz
  go_wp2_with (go_at_call 33; refine HI.out.mono ?_; rintro e w1 ⟨u1, rfl, hown, hb1⟩; obtain ⟨a1, k1, rfl, _, _⟩ := ent_form hown.ents; have hlt : w.heap.size + 1 + 1 < w1.heap.size := (by have := hb1.size; rw [HZ.out] at this; omega); have c1 := keepcE hb1 C1.out; have d0 := keepcE hb1 D0.out; have d1 := keepcE hb1 D1.out; have e0 := keepcE hb1 E0.out; have e1 := keepcE hb1 E1.out; have fd0 := ((bcell hb1).2 _ 0 (by rw [HZ.out]; omega)).trans (FD.out 0); have fd1 := ((bcell hb1).2 _ 1 (by rw [HZ.out]; omega)).trans (FD.out 1); have fe0 := ((bcell hb1).2 _ 0 (by rw [HZ.out]; omega)).trans (FE.out 0); have fe1 := ((bcell hb1).2 _ 1 (by rw [HZ.out]; omega)).trans (FE.out 1); have HO := Lib.hid hown; have HB1 := Lib.hid (HB.out.trans (hb1.mono HB.out.size)); clear hown hb1)
  refine bodyPost_ret (v := .agg #[.slice a1 l.length k1, .bool y]) (by simp [results, Tryz.results104, go_sem, *]) rfl ⟨_, rfl, ?_, ?_⟩
  · have h1 : w.heap.size + 1 < W.heap.size := by rw [HZ.out]; omega
    have h2 : w.heap.size + 1 + 1 < W.heap.size := by rw [HZ.out]; omega
    exact (((((HO.out.setLow h2).setLow h2).setLow h1).setLow h1).base (by rw [HZ.out]; omega)).hi (by rw [size_setCell, size_setCell, size_setCell, size_setCell]; exact Nat.le_refl _) (Nat.le_refl _)
  · have hB1 := HB1.out
    exact (by repeat (first | with_reducible exact Below.refl _ _ | with_reducible assumption | with_reducible refine Below.alloc ?_ ?_ _ | with_reducible refine Below.setCell ?_ ?_ _ | with_reducible refine Below.drew ?_ | with_reducible refine below_drewN ?_ _ | with_reducible refine Below.trans ?_ (Below.mono (by assumption) ?_) | omega | ((repeat (first | rw [World.size_alloc] | rw [size_setCell] | rw [size_drewN] | rw [size_drew])); omega) | exact Nat.le_refl _ | (dsimp only; omega) | (simp [World.setCell]; omega)))

/-- the first k layers as they were laid, none of them in the block R -/
def LayTo (w : World) (R : Nat) (xs : List Value) (l : List Lay) (k : Nat) : Prop :=
  ∀ (j : Nat) (h : j < l.length), j < k → ∃ u lo hi, xs[j * 2]? = some u ∧ xs[j * 2 + 1]? = some (.bool (l[j]).2) ∧ OwnEnts w lo u (l[j]).1 hi ∧ R < lo
theorem LayTo.keep {w w' : World} {R : Nat} {xs : List Value} {l : List Lay} {k : Nat} (h : LayTo w R xs l k) (hb : Below w.heap.size w w') : LayTo w' R xs l k := by
  intro j hj hk
  obtain ⟨u, lo, hi, e1, e2, e3, e4⟩ := h j hj hk
  exact ⟨u, lo, hi, e1, e2, e3.keep hb, e4⟩
theorem LayTo.next {w1 : World} {R lo hi : Nat} {xs : List Value} {l : List Lay} {k : Nat} {u : Value} (h : LayTo w1 R xs l k) (hk : k < l.length) (hxl : xs.length = l.length * 2) (hu : OwnEnts w1 lo u (l[k]).1 hi) (hR : R < lo) :
    LayTo ((w1.setCell ⟨R, k * 2, none⟩ u).setCell ⟨R, k * 2 + 1, none⟩ (.bool (l[k]).2)) R ((xs.set (k * 2) u).set (k * 2 + 1) (.bool (l[k]).2)) l (k + 1) := by
  intro j hj hjk
  by_cases he : j < k
  · obtain ⟨v, lo', hi', e1, e2, e3, e4⟩ := h j hj he
    refine ⟨v, lo', hi', ?_, ?_, (e3.setLow e4).setLow e4, e4⟩
    · rw [List.getElem?_set_ne (by omega), List.getElem?_set_ne (by omega)]; exact e1
    · rw [List.getElem?_set_ne (by omega), List.getElem?_set_ne (by omega)]; exact e2
  · obtain rfl : j = k := by omega
    refine ⟨u, lo, hi, ?_, ?_, (hu.setLow hR).setLow hR, hR⟩
    · rw [List.getElem?_set_ne (by omega), List.getElem?_set_self (by omega)]
    · rw [List.getElem?_set_self (by rw [List.length_set]; omega)]
/-- layers in memory of the call's own -/
def OwnLays (w : World) (lo : Nat) (v : Value) (l : List Lay) : Prop :=
  ∃ g xs, v = .slice (some ⟨g, 0, none⟩) l.length l.length ∧ w.ownsRow lo 96 2 v l.length xs ∧ LayTo w g xs l l.length ∧ lo ≤ g
theorem OwnLays.lays {w : World} {lo : Nat} {v : Value} {l : List Lay} (h : OwnLays w lo v l) : Lays w v l := by
  obtain ⟨g, xs, rfl, h2, h3, _⟩ := h
  obtain ⟨a, cap, e, h4, h5, h6, h7, h8⟩ := Rows.of_own h2
  cases e
  refine ⟨_, _, rfl, h4, h5, (fun h => nomatch h), fun k hk => ?_⟩
  obtain ⟨u, lo', hi', e1, e2, e3, _⟩ := h3 k hk hk
  obtain ⟨b1, o1, q1, c1⟩ := h8 _ _ e1
  obtain ⟨b2, o2, q2, c2⟩ := h8 _ _ e2
  cases q1
  cases q2
  exact ⟨_, _, u, rfl, c1, by simpa [Nat.add_assoc] using c2, e3.ents⟩
theorem OwnLays.keep {w w' : World} {lo : Nat} {v : Value} {l : List Lay} (h : OwnLays w lo v l) (hb : Below w.heap.size w w') : OwnLays w' lo v l := by
  obtain ⟨g, xs, h1, h2, h3, h4⟩ := h
  exact ⟨g, xs, h1, own_keep h2 hb, h3.keep hb, h4⟩
theorem OwnLays.base {w : World} {lo lo' : Nat} {v : Value} {l : List Lay} (h : OwnLays w lo v l) (hl : lo' ≤ lo) : OwnLays w lo' v l := by
  obtain ⟨g, xs, h1, h2, h3, h4⟩ := h
  exact ⟨g, xs, h1, own_base h2 hl, h3, Nat.le_trans hl h4⟩
theorem OwnLays.setLow {w : World} {lo R i : Nat} {v x : Value} {l : List Lay} (h : OwnLays w lo v l) (hR : R < lo) : OwnLays (w.setCell ⟨R, i, none⟩ x) lo v l := by
  obtain ⟨g, xs, h1, h2, h3, h4⟩ := h
  refine ⟨g, xs, h1, own_set_low h2 hR, fun j hj hk => ?_, h4⟩
  obtain ⟨u, lo', hi', e1, e2, e3, e4⟩ := h3 j hj hk
  exact ⟨u, lo', hi', e1, e2, e3.setLow (by omega), e4⟩
def RetLays (w : World) (l : List Lay) (e : Ending) (w' : World) : Prop := ∃ v, e = .returned v ∧ OwnLays w' w.heap.size v l ∧ Below w.heap.size w w'

set_option maxRecDepth 20000 in
set_option maxHeartbeats 1600000 in
theorem toLayerS_any (v : Value) (l : List Lay) (w : World) (hr : Lays w v l) (hf : LaysFit l) :
    Calls Tryz.prog 56 #[v] w (RetLays w l) := by
  have hl := hf.1
  have HE := Lib.hid hr; have HF := Lib.hid hf
  obtain ⟨i0, hi, hz0, hz1, hz2⟩ := info_parts Tryz.infoLay
  obtain ⟨a, cap, rfl, _, _⟩ := lay_form hr
  clear hr hf
  go_enter Tryz.func56, Tryz.ntmps56
  go_wp2_with (at_make; refine wpList_make_full _ rfl _ _ 47 rfl w.heap.size 96 i0 (.agg #[.slice none 0 0, .bool false]) 2 Tryz.underlying47 hi hz0 hz1 .i64 .i64 _ _ l.length rfl rfl rfl rfl ?c2 ?c3 (Nat.le_refl _) ?_)
  case c2 => rw [hz2]; omega
  case c3 => unfold maxLen; omega
  intro w1 hown1 hg1
  have hb0 : Below w.heap.size w w1 := (Below.refl _ _).grown hg1 (Nat.le_refl _) (fun k h => by cases h)
  obtain ⟨zs, hown1⟩ : ∃ zs, w1.ownsRow w.heap.size 96 2 (.slice (some ⟨w.heap.size, 0, none⟩) l.length l.length) l.length zs := ⟨_, hown1⟩
  have HO := Lib.hid hown1; have HB := Lib.hid hb0
  have hw1 : w.heap.size < w1.heap.size := by
    rcases Joins.ownsRow_forms hown1 with ⟨h1, _⟩ | ⟨g, c, h1⟩
    · cases h1
    · exact (hown1.lt w.heap.size rfl).2
  have HS := Lib.hid hw1
  clear hown1 hg1 hb0 hz0 hz1 hz2 hi hw1
  go_wp2
  go_loopw [4] (fun i wr => ∃ (k : Nat) (xs : List Value), k ≤ l.length ∧ i = .int .i64 k ∧ Hid (wr.ownsRow w.heap.size 96 2 (.slice (some ⟨w.heap.size, 0, none⟩) l.length l.length) l.length xs) ∧ Hid (LayTo wr w.heap.size xs l k) ∧ Hid (w.heap.size < wr.heap.size) ∧ Below w.heap.size w wr) (fun i _ => l.length - (intOf i).toNat)
  case atStart => exact ⟨0, zs, Nat.zero_le _, rfl, HO, Lib.hid (fun j hj hk => by omega), HS, HB.out⟩
  clear HO HB HS
  case round =>
    obtain ⟨k, xs, hk, rfl, HO, HT, HG, hb⟩ := hrel
    have HB := Lib.hid hb; clear hb
    by_cases hlt : k < l.length
    · obtain ⟨b, off, u, rfl, c1, c2, c3⟩ := lay_at (HE.out.keep HB.out) k hlt
      have hs := HF.out.at k hlt
      have hki : (k : Int) < (l.length : Int) := by omega
      have HX := Lib.hid (show xs.length = l.length * 2 from HO.out.1)
      obtain ⟨z1, d1⟩ : ∃ z, wr.cell? ⟨w.heap.size, k * 2, none⟩ = some z := by
        rw [HO.out.cellAt (k * 2) (by omega)]
        exact ⟨_, List.getElem?_eq_getElem (by rw [HX.out]; omega)⟩
      obtain ⟨z2, d2⟩ : ∃ z, wr.cell? ⟨w.heap.size, k * 2 + 1, none⟩ = some z := by
        rw [HO.out.cellAt (k * 2 + 1) (by omega)]
        exact ⟨_, List.getElem?_eq_getElem (by rw [HX.out]; omega)⟩
      have HE1 := Lib.hid (toLayer_any u (l[k]'hlt).1 (l[k]'hlt).2 wr c3 hs)
      have HNX := Lib.hid (fun (w1 : World) (u : Value) (lo hi : Nat) (h : LayTo w1 w.heap.size xs l k) (h2 : OwnEnts w1 lo u (l[k]'hlt).1 hi) (h3 : w.heap.size < lo) => LayTo.next h hlt HX.out h2 h3)
      generalize l[k] = p at c1 c2 c3 hs HE1 HNX
      obtain ⟨pl, py⟩ := p
      obtain ⟨au, cu, rfl, _, _⟩ := ent_form c3
      clear c3 hs
      go_wp2_with (go_at_call 104; refine HE1.out.mono ?_; rintro e w2 ⟨u2, rfl, ho2, hb2⟩; obtain ⟨a2, k2, rfl, _, _⟩ := ent_form ho2.ents; have HO2 := Lib.hid (own_keep HO.out hb2); have f1 := keepcE hb2 d1; have f2 := keepcE hb2 d2; have g1 := HO2.out.frozenAt (k * 2); have g2 := HO2.out.frozenAt (k * 2 + 1); have HT2 := Lib.hid (HT.out.keep hb2); have HU2 := Lib.hid ho2; have HB2 := Lib.hid (HB.out.trans (hb2.mono HB.out.size)); have HZ2 := Lib.hid hb2.size; clear ho2 hb2)
      go_roundw
      case rel =>
        have h1 := (HO2.out.stored (k * 2) (.slice a2 pl.length k2)).1
        have h2 := (h1.stored (k * 2 + 1) (.bool py)).1
        have t1 := HNX.out w2 (.slice a2 pl.length k2) _ _ HT2.out HU2.out HG.out
        exact ⟨k + 1, _, by omega, by go_num, Lib.hid h2, Lib.hid t1, Lib.hid (by rw [size_setCell, size_setCell]; exact Nat.lt_of_lt_of_le HG.out HZ2.out), (HB2.out.setCell (Nat.le_refl _) _).setCell (Nat.le_refl _) _⟩
      case measure => simp [intOf]; omega
    · obtain rfl : k = l.length := by omega
      go_wp2
      go_ret
      exact ⟨_, rfl, ⟨w.heap.size, xs, rfl, HO.out, HT.out, Nat.le_refl _⟩, HB.out⟩

/-- a stack laid anew -/
def RetStack (w : World) (l : List Lay) (e : Ending) (w' : World) : Prop := ∃ v, e = .returned (.agg #[v]) ∧ OwnLays w' w.heap.size v l ∧ Below w.heap.size w w'

set_option maxRecDepth 20000 in
set_option maxHeartbeats 1600000 in
theorem toStack_any (v : Value) (l : List Lay) (w : World) (hr : Lays w v l) (hf : LaysFit l) :
    Calls Tryz.prog 18 #[.agg #[v]] w (RetStack w l) := by
  obtain ⟨W, hW⟩ : ∃ W, W = ((w.alloc (.cells #[v] 42)).alloc (.cells #[.slice none 0 0] 49)).alloc (.cells #[.slice none 0 0] 49) := ⟨_, rfl⟩
  have hB : Below w.heap.size w W := by rw [hW]; exact (((Below.refl _ _).alloc (Nat.le_refl _) _).alloc (by rw [World.size_alloc]; omega) _).alloc (by rw [World.size_alloc, World.size_alloc]; omega) _
  have hz : W.heap.size = w.heap.size + 1 + 1 + 1 := by rw [hW, World.size_alloc, World.size_alloc, World.size_alloc]
  have HI := Lib.hid (toLayerS_any v l W (hr.keep hB) hf)
  obtain ⟨av, cv, rfl, _, _⟩ := lay_form hr
  have c0 : W.cell? ⟨w.heap.size, 0, none⟩ = some (.slice av l.length cv) := by rw [hW]; simp [go_sem]
  have d0 : W.cell? ⟨w.heap.size + 1, 0, none⟩ = some (.slice none 0 0) := by rw [hW]; simp [go_sem]
  have e0 : W.cell? ⟨w.heap.size + 1 + 1, 0, none⟩ = some (.slice none 0 0) := by rw [hW]; simp [go_sem]
  have fd : ∀ i, W.frozen? ⟨w.heap.size + 1, i, none⟩ = false := fun i => by rw [hW]; simp [go_sem]
  have fe : ∀ i, W.frozen? ⟨w.heap.size + 1 + 1, i, none⟩ = false := fun i => by rw [hW]; simp [go_sem]
  have C0 := Lib.hid c0; have D0 := Lib.hid d0; have E0 := Lib.hid e0; have FD := Lib.hid fd; have FE := Lib.hid fe
  have HB := Lib.hid hB
  have HW := Lib.hid hW
  have HZ := Lib.hid hz
  clear c0 d0 e0 fd fe hB hW hr hf
  go_enter Tryz.func18, Tryz.ntmps18
  go_upto_region 2 with fail
  rw [← HW.out]
  have g0 := C0.out
  clear hz
  go_wp2_with (go_at_call 56; refine HI.out.mono ?_; rintro e w1 ⟨u1, rfl, hown, hb1⟩; obtain ⟨a1, k1, rfl, _, _⟩ := lay_form hown.lays; have hlt : w.heap.size + 1 + 1 < w1.heap.size := (by have := hb1.size; rw [HZ.out] at this; omega); have d0 := keepcE hb1 D0.out; have e0 := keepcE hb1 E0.out; have fd0 := ((bcell hb1).2 _ 0 (by rw [HZ.out]; omega)).trans (FD.out 0); have fe0 := ((bcell hb1).2 _ 0 (by rw [HZ.out]; omega)).trans (FE.out 0); have HO := Lib.hid hown; have HB1 := Lib.hid (HB.out.trans (hb1.mono HB.out.size)); clear hown hb1)
  refine bodyPost_ret (v := .agg #[.slice a1 l.length k1]) (by simp [results, Tryz.results18, go_sem, *]) rfl ⟨_, rfl, ?_, ?_⟩
  · have h1 : w.heap.size + 1 < W.heap.size := by rw [HZ.out]; omega
    have h2 : w.heap.size + 1 + 1 < W.heap.size := by rw [HZ.out]; omega
    exact ((HO.out.setLow h2).setLow h1).base (by rw [HZ.out]; omega)
  · have hB1 := HB1.out
    exact (by repeat (first | with_reducible exact Below.refl _ _ | with_reducible assumption | with_reducible refine Below.alloc ?_ ?_ _ | with_reducible refine Below.setCell ?_ ?_ _ | with_reducible refine Below.drew ?_ | with_reducible refine below_drewN ?_ _ | with_reducible refine Below.trans ?_ (Below.mono (by assumption) ?_) | omega | ((repeat (first | rw [World.size_alloc] | rw [size_setCell] | rw [size_drewN] | rw [size_drew])); omega) | exact Nat.le_refl _ | (dsimp only; omega) | (simp [World.setCell]; omega)))

end Go.Proofs.YtdidgaibgkdjoaaGreatDoor
