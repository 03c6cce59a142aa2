/-
  CONTRACTS: the laws' own functions over dictionaries: toDictionary, eqDictionary.
-/
import Derived.Test.YtfjdbchffhbidaaDoorDictS
import Derived.Laws.AppendOwn
import Derived.OwnWalk
import Derived.Lib.SmallJoins
namespace Go.Proofs.YtfjdbchffhbidaaDoor
open Go.RowKit

theorem Tryd.infoEnt : (Tryd.prog.info? 132).map (fun i => (i.zero, i.size, i.bytes)) = some (some (.agg #[.slice none 0 0, .string ⟨#[]⟩]), 2, 40) := by kernel_rfl
theorem keepcE {w w' : World} (hb : Below w.heap.size w w') {b o : Nat} {u : Value} (h : w.cell? ⟨b, o, none⟩ = some u) : w'.cell? ⟨b, o, none⟩ = some u := by
  rw [hb.cell (World.block_lt_of_cell? _ _ h)]; exact h

theorem row_formD {w : World} {base size n : Nat} {e : TypeId} {v : Value} {xs : List Value} (h : w.ownsRow base e size v n xs) : ∃ ao co, v = .slice ao n co := by
  rcases Joins.ownsRow_forms h with ⟨h1, h2⟩ | ⟨g, c, h1⟩
  · exact ⟨none, 0, by rw [h1, h2]⟩
  · exact ⟨_, c, h1⟩
theorem grown_setE (w : World) (R i : Nat) (u : Value) : w.grownBy (w.setCell ⟨R, i, none⟩ u) (some R) := by
  refine ⟨rfl, rfl, rfl, by simp [World.setCell], fun k hk hne => ?_⟩
  have : R ≠ k := fun e => hne (by rw [e])
  simp [World.setCell, Array.getElem?_modify, this]
theorem own_set_low {w : World} {base R i : Nat} {E : TypeId} {size n : Nat} {v x : Value} {xs : List Value} (h : w.ownsRow base E size v n xs) (hR : R < base) : (w.setCell ⟨R, i, none⟩ x).ownsRow base E size v n xs :=
  h.kept (grown_setE w R i x) (by
    cases hv : v.ownBlock with
    | none => exact .inl rfl
    | some g =>
      right
      intro e
      have := (h.lt g hv).1
      cases e
      omega)
/-- an entry whose outline lies in memory of the call's own -/
def RetEnt (w : World) (l : List Int) (t : ByteArray) (e : Ending) (w' : World) : Prop :=
  ∃ u, e = .returned (.agg #[u, .string t]) ∧ w'.ownsRow w.heap.size 3 1 u l.length (ints l) ∧ Below w.heap.size w w'

set_option maxRecDepth 20000 in
set_option maxHeartbeats 1600000 in
theorem toEntry_any (u : Value) (l : List Int) (t : ByteArray) (w : World) (hr : Rows w u l.length 1 (ints l)) (hl : l.length ≤ 1048576) :
    Calls Tryd.prog 97 #[.agg #[u, .string t]] w (RetEnt w l t) := by
  obtain ⟨W, hW⟩ : ∃ W, W = ((w.alloc (.cells #[u, .string t] 130)).alloc (.cells #[.slice none 0 0, .string ⟨#[]⟩] 132)).alloc (.cells #[.slice none 0 0, .string ⟨#[]⟩] 132) := ⟨_, rfl⟩
  have hB : Below w.heap.size w W := by rw [hW]; exact (((Below.refl _ _).alloc (Nat.le_refl _) _).alloc (by rw [World.size_alloc]; omega) _).alloc (by rw [World.size_alloc, World.size_alloc]; omega) _
  have hz : W.heap.size = w.heap.size + 1 + 1 + 1 := by rw [hW, World.size_alloc, World.size_alloc, World.size_alloc]
  have HI := Lib.hid (toIntS_any u l W (hr.keep hB) hl)
  have c0 : W.cell? ⟨w.heap.size, 0, none⟩ = some u := by rw [hW]; simp [go_sem]
  have c1 : W.cell? ⟨w.heap.size, 1, none⟩ = some (.string t) := by rw [hW]; simp [go_sem]
  have d0 : W.cell? ⟨w.heap.size + 1, 0, none⟩ = some (.slice none 0 0) := by rw [hW]; simp [go_sem]
  have d1 : W.cell? ⟨w.heap.size + 1, 1, none⟩ = some (.string ⟨#[]⟩) := by rw [hW]; simp [go_sem]
  have e0 : W.cell? ⟨w.heap.size + 1 + 1, 0, none⟩ = some (.slice none 0 0) := by rw [hW]; simp [go_sem]
  have e1 : W.cell? ⟨w.heap.size + 1 + 1, 1, none⟩ = some (.string ⟨#[]⟩) := by rw [hW]; simp [go_sem]
  have fd : ∀ i, W.frozen? ⟨w.heap.size + 1, i, none⟩ = false := fun i => by rw [hW]; simp [go_sem]
  have fe : ∀ i, W.frozen? ⟨w.heap.size + 1 + 1, i, none⟩ = false := fun i => by rw [hW]; simp [go_sem]
  have C0 := Lib.hid c0; have C1 := Lib.hid c1; have D0 := Lib.hid d0; have D1 := Lib.hid d1; have E0 := Lib.hid e0; have E1 := Lib.hid e1; have FD := Lib.hid fd; have FE := Lib.hid fe
  have HB := Lib.hid hB
  have HW := Lib.hid hW
  have HZ := Lib.hid hz
  clear c0 c1 d0 d1 e0 e1 fd fe hB hW hr
  go_enter Tryd.func97, Tryd.ntmps97
  go_upto_region 2 with fail
  rw [← HW.out]
  have g0 := C0.out
  clear hz
  go_wp2_with (go_at_call 25; refine HI.out.mono ?_; rintro e w1 ⟨u1, rfl, hown, hb1⟩; obtain ⟨a1, k1, rfl⟩ := row_formD hown; have hlt : w.heap.size + 1 + 1 < w1.heap.size := (by have := hb1.size; rw [HZ.out] at this; omega); have c1 := keepcE hb1 C1.out; have d0 := keepcE hb1 D0.out; have d1 := keepcE hb1 D1.out; have e0 := keepcE hb1 E0.out; have e1 := keepcE hb1 E1.out; have fd0 := ((bcell hb1).2 _ 0 (by rw [HZ.out]; omega)).trans (FD.out 0); have fd1 := ((bcell hb1).2 _ 1 (by rw [HZ.out]; omega)).trans (FD.out 1); have fe0 := ((bcell hb1).2 _ 0 (by rw [HZ.out]; omega)).trans (FE.out 0); have fe1 := ((bcell hb1).2 _ 1 (by rw [HZ.out]; omega)).trans (FE.out 1); have HO := Lib.hid hown; have HB1 := Lib.hid (HB.out.trans (hb1.mono HB.out.size)); clear hown hb1)
  refine bodyPost_ret (v := .agg #[.slice a1 l.length k1, .string t]) (by simp [results, Tryd.results97, go_sem, *]) rfl ⟨_, rfl, ?_, ?_⟩
  · have h1 : w.heap.size + 1 < W.heap.size := by rw [HZ.out]; omega
    have h2 : w.heap.size + 1 + 1 < W.heap.size := by rw [HZ.out]; omega
    exact own_base (own_set_low (own_set_low (own_set_low (own_set_low HO.out h2) h2) h1) h1) (by rw [HZ.out]; omega)
  · have hB1 := HB1.out
    exact (by repeat (first | with_reducible exact Below.refl _ _ | with_reducible assumption | with_reducible refine Below.alloc ?_ ?_ _ | with_reducible refine Below.setCell ?_ ?_ _ | with_reducible refine Below.drew ?_ | with_reducible refine below_drewN ?_ _ | with_reducible refine Below.trans ?_ (Below.mono (by assumption) ?_) | omega | ((repeat (first | rw [World.size_alloc] | rw [size_setCell] | rw [size_drewN] | rw [size_drew])); omega) | exact Nat.le_refl _ | (dsimp only; omega) | (simp [World.setCell]; omega)))

/-- the first k entries as they were laid: each outline in an interval of blocks of its own -/
def EntTo (w : World) (c : Nat → Nat) (xs : List Value) (l : List Ent) (k : Nat) : Prop :=
  ∀ (j : Nat) (h : j < l.length), j < k → ∃ u, xs[j * 2]? = some u ∧ xs[j * 2 + 1]? = some (.string (l[j]).2) ∧ w.ownsRow (c j) 3 1 u (l[j]).1.length (ints (l[j]).1) ∧ (∀ b, u.ownBlock = some b → b < c (j + 1))
/-- entries in memory of the call's own, between two blocks -/
def OwnEnts (w : World) (lo : Nat) (v : Value) (l : List Ent) (hi : Nat) : Prop :=
  ∃ g xs c, v = .slice (some ⟨g, 0, none⟩) l.length l.length ∧ w.ownsRow lo 132 2 v l.length xs ∧ EntTo w c xs l l.length ∧ (∀ j, j < l.length → c j ≤ c (j + 1)) ∧ g < c 0 ∧ lo ≤ g ∧ c l.length ≤ hi ∧ hi ≤ w.heap.size
theorem OwnEnts.ents {w : World} {lo hi : Nat} {v : Value} {l : List Ent} (h : OwnEnts w lo v l hi) : Ents w v l := by
  obtain ⟨g, xs, c, rfl, h2, h3, _⟩ := h
  obtain ⟨a, cap, e, h4, h5, h6, h7, h8⟩ := Rows.of_own h2
  cases e
  refine ⟨_, _, rfl, h4, h5, h7, fun k hk => ?_⟩
  obtain ⟨u, e1, e2, e3, _⟩ := h3 k hk hk
  obtain ⟨b, off, e4, e5⟩ := h8 _ _ e1
  obtain ⟨b', off', e6, e7⟩ := h8 _ _ e2
  cases e4
  cases e6
  exact ⟨_, _, u, rfl, e5, e7, Rows.of_own e3⟩
theorem OwnEnts.keep {w w' : World} {lo hi : Nat} {v : Value} {l : List Ent} (h : OwnEnts w lo v l hi) (hb : Below w.heap.size w w') : OwnEnts w' lo v l hi := by
  obtain ⟨g, xs, c, h1, h2, h3, h4, h5, h6, h7, h8⟩ := h
  refine ⟨g, xs, c, h1, own_keep h2 hb, fun j hj hk => ?_, h4, h5, h6, h7, Nat.le_trans h8 hb.size⟩
  obtain ⟨u, e1, e2, e3, e4⟩ := h3 j hj hk
  exact ⟨u, e1, e2, own_keep e3 hb, e4⟩
theorem OwnEnts.base {w : World} {lo lo' hi : Nat} {v : Value} {l : List Ent} (h : OwnEnts w lo v l hi) (hl : lo' ≤ lo) : OwnEnts w lo' v l hi := by
  obtain ⟨g, xs, c, h1, h2, h3, h4, h5, h6, h7, h8⟩ := h
  exact ⟨g, xs, c, h1, own_base h2 hl, h3, h4, h5, Nat.le_trans hl h6, h7, h8⟩
theorem EntTo.keep {w w' : World} {c : Nat → Nat} {xs : List Value} {l : List Ent} {k : Nat} (h : EntTo w c xs l k) (hb : Below w.heap.size w w') : EntTo w' c xs l k := by
  intro j hj hk
  obtain ⟨u, e1, e2, e3, e4⟩ := h j hj hk
  exact ⟨u, e1, e2, own_keep e3 hb, e4⟩
/-- one entry more -/
theorem EntTo.next {w1 w2 : World} {c : Nat → Nat} {xs : List Value} {l : List Ent} {k base : Nat} {g : Nat} {u : Value} (h : EntTo w1 c xs l k) (hk : k < l.length) (hxl : xs.length = l.length * 2) (hc : ∀ j, j < k → c j ≤ c (j + 1)) (hg : g < c 0) (hck : c k ≤ base) (hb : base ≤ w1.heap.size)
    (hu : w1.ownsRow base 3 1 u (l[k]).1.length (ints (l[k]).1)) (hset : w2 = (w1.setCell ⟨g, k * 2, none⟩ u).setCell ⟨g, k * 2 + 1, none⟩ (.string (l[k]).2)) :
    ∃ c', EntTo w2 c' ((xs.set (k * 2) u).set (k * 2 + 1) (.string (l[k]).2)) l (k + 1) ∧ (∀ j, j < k + 1 → c' j ≤ c' (j + 1)) ∧ g < c' 0 ∧ c' (k + 1) = w1.heap.size := by
  have hmono : ∀ j, j ≤ k → c 0 ≤ c j := by
    intro j
    induction j with
    | zero => intro _; exact Nat.le_refl _
    | succ j ih => intro hj; exact Nat.le_trans (ih (by omega)) (hc j (by omega))
  subst hset
  refine ⟨fun j => if j ≤ k then c j else w1.heap.size, fun j hj hjk => ?_, fun j hjk => ?_, ?_, ?_⟩
  · by_cases he : j < k
    · obtain ⟨v, e1, e2, e3, e4⟩ := h j hj he
      have hgj : g < c j := Nat.lt_of_lt_of_le hg (hmono j (by omega))
      refine ⟨v, ?_, ?_, ?_, ?_⟩
      · rw [List.getElem?_set_ne (by omega), List.getElem?_set_ne (by omega)]; exact e1
      · rw [List.getElem?_set_ne (by omega), List.getElem?_set_ne (by omega)]; exact e2
      · dsimp only
        rw [if_pos (by omega)]
        exact own_set_low (own_set_low e3 hgj) hgj
      · intro b hv
        dsimp only
        rw [if_pos (by omega)]
        exact e4 b hv
    · obtain rfl : j = k := by omega
      have hgj : g < c j := Nat.lt_of_lt_of_le hg (hmono j (Nat.le_refl _))
      refine ⟨u, ?_, ?_, ?_, ?_⟩
      · rw [List.getElem?_set_ne (by omega), List.getElem?_set_self (by omega)]
      · rw [List.getElem?_set_self (by rw [List.length_set]; omega)]
      · dsimp only
        rw [if_pos (Nat.le_refl _)]
        exact own_base (own_set_low (own_set_low hu (by omega)) (by omega)) hck
      · intro b hv
        dsimp only
        rw [if_neg (by omega)]
        exact (hu.lt b hv).2
  · by_cases he : j < k
    · simp only [if_pos (show j ≤ k by omega), if_pos (show j + 1 ≤ k by omega)]
      exact hc j he
    · obtain rfl : j = k := by omega
      simp only [if_pos (Nat.le_refl j), if_neg (show ¬ j + 1 ≤ j by omega)]
      exact Nat.le_trans hck hb
  · simp only [if_pos (Nat.zero_le k)]; exact hg
  · simp only [if_neg (show ¬ k + 1 ≤ k by omega)]

/-- entries laid anew -/
def RetEnts (w : World) (l : List Ent) (e : Ending) (w' : World) : Prop := ∃ v, e = .returned v ∧ OwnEnts w' w.heap.size v l w'.heap.size ∧ Below w.heap.size w w'

set_option maxRecDepth 20000 in
set_option maxHeartbeats 1600000 in
theorem toEntryS_any (v : Value) (l : List Ent) (w : World) (hr : Ents w v l) (hf : EntsFit l) :
    Calls Tryd.prog 62 #[v] w (RetEnts w l) := by
  have hl := hf.1
  have HE := Lib.hid hr; have HF := Lib.hid hf
  obtain ⟨i0, hi, hz0, hz1, hz2⟩ := info_parts Tryd.infoEnt
  obtain ⟨a, cap, rfl, _, _⟩ := ent_form hr
  clear hr hf
  go_enter Tryd.func62, Tryd.ntmps62
  go_wp2_with (at_make; refine wpList_make_full _ rfl _ _ 47 rfl w.heap.size 132 i0 (.agg #[.slice none 0 0, .string ⟨#[]⟩]) 2 Tryd.underlying47 hi hz0 hz1 .i64 .i64 _ _ l.length rfl rfl rfl rfl ?c2 ?c3 (Nat.le_refl _) ?_)
  case c2 => rw [hz2]; omega
  case c3 => unfold maxLen; omega
  intro w1 hown1 hg1
  have hb0 : Below w.heap.size w w1 := (Below.refl _ _).grown hg1 (Nat.le_refl _) (fun k h => by cases h)
  obtain ⟨zs, hown1⟩ : ∃ zs, w1.ownsRow w.heap.size 132 2 (.slice (some ⟨w.heap.size, 0, none⟩) l.length l.length) l.length zs := ⟨_, hown1⟩
  have HO := Lib.hid hown1; have HB := Lib.hid hb0
  have hw1 : w.heap.size < w1.heap.size := by
    rcases Joins.ownsRow_forms hown1 with ⟨h1, _⟩ | ⟨g, c, h1⟩
    · cases h1
    · exact (hown1.lt w.heap.size rfl).2
  have HS := Lib.hid hw1
  clear hown1 hg1 hb0 hz0 hz1 hz2 hi hw1
  go_wp2
  go_loopw [4] (fun i wr => ∃ (k : Nat) (xs : List Value) (c : Nat → Nat), k ≤ l.length ∧ i = .int .i64 k ∧ Hid (wr.ownsRow w.heap.size 132 2 (.slice (some ⟨w.heap.size, 0, none⟩) l.length l.length) l.length xs) ∧ Hid (EntTo wr c xs l k) ∧ Hid (∀ j, j < k → c j ≤ c (j + 1)) ∧ Hid (w.heap.size < c 0) ∧ Hid (c k ≤ wr.heap.size) ∧ Below w.heap.size w wr) (fun i _ => l.length - (intOf i).toNat)
  case atStart => exact ⟨0, zs, fun _ => w1.heap.size, Nat.zero_le _, rfl, HO, Lib.hid (fun j hj hk => by omega), Lib.hid (fun j hj => by omega), HS, Lib.hid (Nat.le_refl _), HB.out⟩
  clear HO HB HS
  case round =>
    obtain ⟨k, xs, c, hk, rfl, HO, HT, HC, HG, HK, hb⟩ := hrel
    have HB := Lib.hid hb; clear hb
    by_cases hlt : k < l.length
    · obtain ⟨b, off, u, rfl, c1, c2, c3⟩ := ent_at (HE.out.keep HB.out) k hlt
      have hs := HF.out.at k hlt
      have hki : (k : Int) < (l.length : Int) := by omega
      have HX := Lib.hid (show xs.length = l.length * 2 from HO.out.1)
      obtain ⟨z1, d1⟩ : ∃ z, wr.cell? ⟨w.heap.size, k * 2, none⟩ = some z := by
        rw [HO.out.cellAt (k * 2) (by omega)]
        exact ⟨_, List.getElem?_eq_getElem (by rw [HX.out]; omega)⟩
      obtain ⟨z2, d2⟩ : ∃ z, wr.cell? ⟨w.heap.size, k * 2 + 1, none⟩ = some z := by
        rw [HO.out.cellAt (k * 2 + 1) (by omega)]
        exact ⟨_, List.getElem?_eq_getElem (by rw [HX.out]; omega)⟩
      have HE1 := Lib.hid (fun (W : World) (h : Rows W u (l[k]'hlt).1.length 1 (ints (l[k]'hlt).1)) => toEntry_any u (l[k]'hlt).1 (l[k]'hlt).2 W h hs.1)
      have HR := Lib.hid c3
      have HNX := Lib.hid (fun (w1 w2 : World) (u : Value) (h : EntTo w1 c xs l k) => EntTo.next (w2 := w2) (base := wr.heap.size) (u := u) h hlt HX.out HC.out HG.out HK.out)
      generalize l[k] = p at c1 c2 hs HE1 HR HNX
      obtain ⟨pl, pt⟩ := p
      obtain ⟨au, cu, rfl, _, _⟩ := rows_form c3
      clear c3 hs
      go_wp2_with (go_at_call 97; refine (HE1.out _ HR.out).mono ?_; rintro e w2 ⟨u2, rfl, ho2, hb2⟩; obtain ⟨a2, k2, rfl⟩ := row_formD ho2; have HO2 := Lib.hid (own_keep HO.out hb2); have f1 := keepcE hb2 d1; have f2 := keepcE hb2 d2; have g1 := HO2.out.frozenAt (k * 2); have g2 := HO2.out.frozenAt (k * 2 + 1); have HT2 := Lib.hid (HT.out.keep hb2); have HU2 := Lib.hid ho2; have HB2 := Lib.hid (HB.out.trans (hb2.mono HB.out.size)); have HZ2 := Lib.hid hb2.size; clear ho2 hb2)
      go_roundw
      case rel =>
        have h1 := (HO2.out.stored (k * 2) (.slice a2 pl.length k2)).1
        have h2 := (h1.stored (k * 2 + 1) (.string pt)).1
        obtain ⟨c', t1, t2, t3, t4⟩ := HNX.out w2 _ (.slice a2 pl.length k2) HT2.out HZ2.out HU2.out rfl
        exact ⟨k + 1, _, c', by omega, by go_num, Lib.hid h2, Lib.hid t1, Lib.hid t2, Lib.hid t3, Lib.hid (by rw [t4, size_setCell, size_setCell]; exact Nat.le_refl _), (HB2.out.setCell (Nat.le_refl _) _).setCell (Nat.le_refl _) _⟩
      case measure => simp [intOf]; omega
    · obtain rfl : k = l.length := by omega
      go_wp2
      go_ret
      exact ⟨_, rfl, ⟨w.heap.size, xs, c, rfl, HO.out, HT.out, HC.out, HG.out, Nat.le_refl _, HK.out, Nat.le_refl _⟩, HB.out⟩


/-- a dictionary laid anew -/
def RetDict (w : World) (l : List Ent) (e : Ending) (w' : World) : Prop := ∃ v, e = .returned (.agg #[v]) ∧ OwnEnts w' w.heap.size v l w'.heap.size ∧ Below w.heap.size w w'
theorem OwnEnts.setLow {w : World} {lo hi R i : Nat} {v x : Value} {l : List Ent} (h : OwnEnts w lo v l hi) (hR : R < lo) : OwnEnts (w.setCell ⟨R, i, none⟩ x) lo v l hi := by
  obtain ⟨g, xs, c, h1, h2, h3, h4, h5, h6, h7, h8⟩ := h
  have hmono : ∀ j, j ≤ l.length → c 0 ≤ c j := by
    intro j
    induction j with
    | zero => intro _; exact Nat.le_refl _
    | succ j ih => intro hj; exact Nat.le_trans (ih (by omega)) (h4 j (by omega))
  refine ⟨g, xs, c, h1, own_set_low h2 hR, fun j hj hk => ?_, h4, h5, h6, h7, by rw [size_setCell]; exact h8⟩
  obtain ⟨u, e1, e2, e3, e4⟩ := h3 j hj hk
  exact ⟨u, e1, e2, own_set_low e3 (by have := hmono j (by omega); omega), e4⟩
theorem OwnEnts.hi {w : World} {lo hi hi' : Nat} {v : Value} {l : List Ent} (h : OwnEnts w lo v l hi) (h' : hi ≤ hi') (h2' : hi' ≤ w.heap.size) : OwnEnts w lo v l hi' := by
  obtain ⟨g, xs, c, h1, h2, h3, h4, h5, h6, h7, h8⟩ := h
  exact ⟨g, xs, c, h1, h2, h3, h4, h5, h6, Nat.le_trans h7 h', h2'⟩

set_option maxRecDepth 20000 in
set_option maxHeartbeats 1600000 in
theorem toDictionary_any (v : Value) (l : List Ent) (w : World) (hr : Ents w v l) (hf : EntsFit l) :
    Calls Tryd.prog 24 #[.agg #[v]] w (RetDict w l) := by
  obtain ⟨W, hW⟩ : ∃ W, W = ((w.alloc (.cells #[v] 43)).alloc (.cells #[.slice none 0 0] 49)).alloc (.cells #[.slice none 0 0] 49) := ⟨_, rfl⟩
  have hB : Below w.heap.size w W := by rw [hW]; exact (((Below.refl _ _).alloc (Nat.le_refl _) _).alloc (by rw [World.size_alloc]; omega) _).alloc (by rw [World.size_alloc, World.size_alloc]; omega) _
  have hz : W.heap.size = w.heap.size + 1 + 1 + 1 := by rw [hW, World.size_alloc, World.size_alloc, World.size_alloc]
  have HI := Lib.hid (toEntryS_any v l W (hr.keep hB) hf)
  obtain ⟨av, cv, rfl, _, _⟩ := ent_form hr
  have c0 : W.cell? ⟨w.heap.size, 0, none⟩ = some (.slice av l.length cv) := by rw [hW]; simp [go_sem]
  have d0 : W.cell? ⟨w.heap.size + 1, 0, none⟩ = some (.slice none 0 0) := by rw [hW]; simp [go_sem]
  have e0 : W.cell? ⟨w.heap.size + 1 + 1, 0, none⟩ = some (.slice none 0 0) := by rw [hW]; simp [go_sem]
  have fd : ∀ i, W.frozen? ⟨w.heap.size + 1, i, none⟩ = false := fun i => by rw [hW]; simp [go_sem]
  have fe : ∀ i, W.frozen? ⟨w.heap.size + 1 + 1, i, none⟩ = false := fun i => by rw [hW]; simp [go_sem]
  have C0 := Lib.hid c0; have D0 := Lib.hid d0; have E0 := Lib.hid e0; have FD := Lib.hid fd; have FE := Lib.hid fe
  have HB := Lib.hid hB
  have HW := Lib.hid hW
  have HZ := Lib.hid hz
  clear c0 d0 e0 fd fe hB hW hr hf
  go_enter Tryd.func24, Tryd.ntmps24
  go_upto_region 2 with fail
  rw [← HW.out]
  have g0 := C0.out
  clear hz
  go_wp2_with (go_at_call 62; refine HI.out.mono ?_; rintro e w1 ⟨u1, rfl, hown, hb1⟩; obtain ⟨a1, k1, rfl, _, _⟩ := ent_form hown.ents; have hlt : w.heap.size + 1 + 1 < w1.heap.size := (by have := hb1.size; rw [HZ.out] at this; omega); have d0 := keepcE hb1 D0.out; have e0 := keepcE hb1 E0.out; have fd0 := ((bcell hb1).2 _ 0 (by rw [HZ.out]; omega)).trans (FD.out 0); have fe0 := ((bcell hb1).2 _ 0 (by rw [HZ.out]; omega)).trans (FE.out 0); have HO := Lib.hid hown; have HB1 := Lib.hid (HB.out.trans (hb1.mono HB.out.size)); clear hown hb1)
  refine bodyPost_ret (v := .agg #[.slice a1 l.length k1]) (by simp [results, Tryd.results24, go_sem, *]) rfl ⟨_, rfl, ?_, ?_⟩
  · have h1 : w.heap.size + 1 < W.heap.size := by rw [HZ.out]; omega
    have h2 : w.heap.size + 1 + 1 < W.heap.size := by rw [HZ.out]; omega
    exact (((HO.out.setLow h2).setLow h1).base (by rw [HZ.out]; omega)).hi (by rw [size_setCell, size_setCell]; exact Nat.le_refl _) (Nat.le_refl _)
  · have hB1 := HB1.out
    exact (by repeat (first | with_reducible exact Below.refl _ _ | with_reducible assumption | with_reducible refine Below.alloc ?_ ?_ _ | with_reducible refine Below.setCell ?_ ?_ _ | with_reducible refine Below.drew ?_ | with_reducible refine below_drewN ?_ _ | with_reducible refine Below.trans ?_ (Below.mono (by assumption) ?_) | omega | ((repeat (first | rw [World.size_alloc] | rw [size_setCell] | rw [size_drewN] | rw [size_drew])); omega) | exact Nat.le_refl _ | (dsimp only; omega) | (simp [World.setCell]; omega)))

set_option maxHeartbeats 800000 in
theorem eqEntry_same (u u' : Value) (l : List Int) (t : ByteArray) (w : World) (hr : Rows w u l.length 1 (ints l)) (hr' : Rows w u' l.length 1 (ints l)) (hl : l.length ≤ 1048576) :
    Calls Tryd.prog 101 #[.agg #[u, .string t], .agg #[u', .string t]] w fun e w' => e = .returned (.bool true) ∧ Below w.heap.size w w' := by
  have HB := Lib.hid (Joins.below_alloc2 w (.cells #[u, .string t] 132) (.cells #[u', .string t] 132))
  have HE := Lib.hid (eqIntS_same u u' l _ (hr.keep HB.out) (hr'.keep HB.out) hl)
  have HC := Lib.hid (show ((w.alloc (.cells #[u, .string t] 132)).alloc (.cells #[u', .string t] 132)).cell? ⟨w.heap.size, 1, none⟩ = some (.string t) by simp [go_sem])
  have HD := Lib.hid (show ((w.alloc (.cells #[u, .string t] 132)).alloc (.cells #[u', .string t] 132)).cell? ⟨w.heap.size + 1, 1, none⟩ = some (.string t) by simp [go_sem])
  obtain ⟨a, cap, rfl, _, _⟩ := rows_form hr
  obtain ⟨a', cap', rfl, _, _⟩ := rows_form hr'
  clear hr hr'
  go_enter Tryd.func101, Tryd.ntmps101
  go_wp2_with (go_at_call 28; refine HE.out.mono ?_; rintro e w1 ⟨rfl, hd⟩; have hb1 := hd.below; have c1 := keepcE hb1 HC.out; have c2 := keepcE hb1 HD.out; have HB1 := Lib.hid (HB.out.trans (hb1.mono HB.out.size)); clear hd hb1)
  go_ret
  exact ⟨rfl, HB1.out⟩

set_option maxRecDepth 20000 in
set_option maxHeartbeats 1600000 in
theorem eqEntryS_same (v v' : Value) (l : List Ent) (w : World) (hr : Ents w v l) (hr' : Ents w v' l) (hf : EntsFit l) :
    Calls Tryd.prog 65 #[v, v'] w fun e w' => e = .returned (.bool true) ∧ Below w.heap.size w w' := by
  have hl := hf.1
  have HE := Lib.hid hr; have HE' := Lib.hid hr'; have HF := Lib.hid hf
  obtain ⟨a, cap, rfl, _, _⟩ := ent_form hr
  obtain ⟨a', cap', rfl, _, _⟩ := ent_form hr'
  clear hr hr' hf
  go_enter Tryd.func65, Tryd.ntmps65
  go_wp2
  go_loopw [5] (fun i wr => ∃ k : Nat, k ≤ l.length ∧ i = .int .i64 k ∧ Below w.heap.size w wr) (fun i _ => l.length - (intOf i).toNat)
  case atStart => exact ⟨0, Nat.zero_le _, rfl, Below.refl _ _⟩
  case round =>
    obtain ⟨k, hk, rfl, hb⟩ := hrel
    have HB := Lib.hid hb; clear hb
    by_cases hlt : k < l.length
    · obtain ⟨b, off, u, rfl, c1, c2, c3⟩ := ent_at (HE.out.keep HB.out) k hlt
      obtain ⟨b', off', u', rfl, d1, d2, d3⟩ := ent_at (HE'.out.keep HB.out) k hlt
      have hs := (HF.out.at k hlt).1
      have hki : (k : Int) < (l.length : Int) := by omega
      have hk0 : (0 : Int) ≤ (k : Int) := by omega
      generalize l[k] = p at c1 c2 c3 d1 d2 d3 hs
      obtain ⟨pl, pt⟩ := p
      replace hs : pl.length ≤ 1048576 := hs
      have HR := Lib.hid (show Rows wr u pl.length 1 (ints pl) from c3)
      have HR' := Lib.hid (show Rows wr u' pl.length 1 (ints pl) from d3)
      obtain ⟨au, cu, rfl, _, _⟩ := rows_form c3
      obtain ⟨au', cu', rfl, _, _⟩ := rows_form d3
      clear c3 d3
      replace HR : Hid (Rows wr (.slice au pl.length cu) pl.length 1 (ints pl)) := HR
      replace HR' : Hid (Rows wr (.slice au' pl.length cu') pl.length 1 (ints pl)) := HR'
      go_upto_region 6 with fail
      go_region_held3 (fun w' => w'.cell? ⟨b, off + k * 2, none⟩ = some (.slice au pl.length cu) ∧ w'.cell? ⟨b, off + k * 2 + 1, none⟩ = some (.string pt) ∧ w'.cell? ⟨b', off' + k * 2, none⟩ = some (.slice au' pl.length cu') ∧ w'.cell? ⟨b', off' + k * 2 + 1, none⟩ = some (.string pt)) (first | exact ⟨e1, e2, e3, e4⟩ | exact ⟨c1, c2, d1, d2⟩) (first
        | (go_at_call 101; refine (eqEntry_same _ _ pl _ _ (Rows.drew HR.out 1) (Rows.drew HR'.out 1) hs).mono ?_; rintro e w1 ⟨rfl, hb1⟩; have e1 := keepcE hb1 c1; have e2 := keepcE hb1 c2; have e3 := keepcE hb1 d1; have e4 := keepcE hb1 d2))
      go_wp2
      go_roundw
      case rel => exact ⟨k + 1, by omega, by go_num, (below_drew1 HB.out).trans (hb1.mono HB.out.size)⟩
      case measure => simp [intOf]; omega
    · go_wp2
      go_ret
      exact ⟨rfl, HB.out⟩

set_option maxHeartbeats 800000 in
theorem eqDictionary_same (v v' : Value) (l : List Ent) (w : World) (hr : Ents w v l) (hr' : Ents w v' l) (hf : EntsFit l) :
    Calls Tryd.prog 27 #[.agg #[v], .agg #[v']] w fun e w' => e = .returned (.bool true) ∧ Below w.heap.size w w' := by
  have HB := Lib.hid (Joins.below_alloc2 w (.cells #[v] 49) (.cells #[v'] 49))
  have HE := Lib.hid (eqEntryS_same v v' l _ (hr.keep HB.out) (hr'.keep HB.out) hf)
  obtain ⟨a, cap, rfl, _, _⟩ := ent_form hr
  obtain ⟨a', cap', rfl, _, _⟩ := ent_form hr'
  clear hr hr' hf
  go_enter Tryd.func27, Tryd.ntmps27
  go_wp2_with (go_at_call 65; refine HE.out.mono ?_; rintro e w1 ⟨rfl, hb1⟩; have HB1 := Lib.hid (HB.out.trans (hb1.mono HB.out.size)); clear hb1)
  go_ret
  exact ⟨rfl, HB1.out⟩

end Go.Proofs.YtfjdbchffhbidaaDoor
