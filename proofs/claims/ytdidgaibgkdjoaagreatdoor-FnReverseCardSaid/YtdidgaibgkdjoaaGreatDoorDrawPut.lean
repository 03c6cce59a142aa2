/-
  CONTRACT: an entry put into a dictionary by the reference: l6Put. Of the new dictionary its entries' kind is told.
-/
import Derived.Test.YtdidgaibgkdjoaaGreatDoorDrawPutR
import Derived.Test.YtdidgaibgkdjoaaGreatDoorBasA
import Derived.Test.YtdidgaibgkdjoaaGreatDoorLastOp
import Derived.Deep.DeepCutAuto
namespace Go.Proofs.YtdidgaibgkdjoaaGreatDoor
open Go.RowKit

/-- a dictionary of the call's own, of some of the entries -/
def RetPut (l : List Ent) (p : List Int) (t : ByteArray) (w : World) (e : Ending) (w' : World) : Prop :=
  ∃ v L, e = .returned (.agg #[v]) ∧ OwnD w' w.heap.size v L ∧ (∀ q ∈ L, q ∈ l ∨ q = (p, t)) ∧ L.length ≤ l.length + 1 ∧ 1 ≤ L.length ∧ Below w.heap.size w w'
theorem set2o {w : World} {R o b i j : Nat} {u x y : Value} (h : w.cell? ⟨R, o, none⟩ = some u) (hne : R ≠ b) : ((w.setCell ⟨b, i, none⟩ x).setCell ⟨b, j, none⟩ y).cell? ⟨R, o, none⟩ = some u := by
  have hn : ∀ k : Nat, (⟨b, k, none⟩ : Addr) ≠ ⟨R, o, none⟩ := fun k e => by injection e with e _ _; exact hne e.symm
  rw [World.cell?_setCell_other _ _ _ _ (hn j), World.cell?_setCell_other _ _ _ _ (hn i)]
  exact h
def Var2 (w : World) (b : Nat) : Prop := w.cell? ⟨b, 0, none⟩ = some (.slice none 0 0) ∧ w.cell? ⟨b, 1, none⟩ = some (.string ⟨#[]⟩) ∧ ∀ i, w.frozen? ⟨b, i, none⟩ = false
theorem var2 (w : World) (T : TypeId) : Var2 (w.alloc (.cells #[.slice none 0 0, .string ⟨#[]⟩] T)).drew w.heap.size := by
  refine ⟨?_, ?_, fun i => ?_⟩
  all_goals simp [go_sem]
theorem var2_keep {w w' : World} {b : Nat} (h : Var2 w b) (hb : Below w.heap.size w w') : Var2 w' b :=
  ⟨by rw [hb.cell (World.block_lt_of_cell? _ _ h.1)]; exact h.1, by rw [hb.cell (World.block_lt_of_cell? _ _ h.2.1)]; exact h.2.1, fun i => by rw [hb.frozen (p := ⟨b, i, none⟩) (show b < w.heap.size from World.block_lt_of_cell? _ _ h.1)]; exact h.2.2 i⟩
theorem put_le {n k m : Nat} {y : Bool} (h : n ≤ k + (if y = true then 1 else 0)) (hk : k ≤ m) : n ≤ m + 1 := by
  split at h <;> omega
theorem put_up {n k c : Nat} (h : n ≤ k + c) : n + 1 ≤ k + 1 + c := by omega
theorem set1o {w : World} {R o b i : Nat} {u x : Value} (h : w.cell? ⟨R, o, none⟩ = some u) (hne : R ≠ b) : (w.setCell ⟨b, i, none⟩ x).cell? ⟨R, o, none⟩ = some u := by
  rw [World.cell?_setCell_other _ _ _ _ (fun e => by injection e with e _ _; exact hne e.symm)]
  exact h
set_option maxRecDepth 20000 in
set_option maxHeartbeats 3200000 in
theorem l6Put_any (vd ve : Value) (l : List Ent) (p : List Int) (t : ByteArray) (w : World) (hd : Ents w vd l) (hl : l.length ≤ 100) (hf : ∀ q ∈ l, 1 ≤ q.1.length ∧ q.1.length ≤ 100 ∧ q.2.size ≤ 2000) (he : Rows w ve p.length 1 (ints p)) (hp : 1 ≤ p.length ∧ p.length ≤ 100) :
    Calls Tryz.prog 109 #[.agg #[vd], .agg #[ve, .string t]] w (RetPut l p t w) := by
  have HE0' := Lib.hid he
  obtain ⟨ve, co, rfl, hco, _, hno, _, hcp⟩ := he
  obtain ⟨bo, oo, rfl⟩ : ∃ bo oo, ve = some ⟨bo, oo, none⟩ := by
    obtain ⟨b1, o1, e1, _⟩ := hcp _ _ (ints_at p 0 (by omega))
    exact ⟨b1, o1, e1⟩
  obtain ⟨a, cap, rfl, _, _⟩ := ent_form hd
  have HE0 := Lib.hid (show Rows w (.slice (some ⟨bo, oo, none⟩) p.length co) p.length 1 (ints p) from HE0'.out)
  clear HE0'
  obtain ⟨W0, hW0⟩ : ∃ W0, W0 = (((w.alloc (.cells #[.slice a l.length cap] 26)).alloc (.cells #[.slice (some ⟨bo, oo, none⟩) p.length co, .string t] 39)).alloc (.cells #[.slice none 0 0] 26)).alloc (.cells #[.slice none 0 0] 26) := ⟨_, rfl⟩
  have HB0 := Lib.hid (show Below w.heap.size w W0 by rw [hW0]; exact (by repeat (first | with_reducible exact Below.refl _ _ | with_reducible assumption | with_reducible refine Below.alloc ?_ ?_ _ | with_reducible refine Below.setCell ?_ ?_ _ | with_reducible refine Below.drew ?_ | with_reducible refine below_drewN ?_ _ | with_reducible refine Below.trans ?_ (Below.mono (by assumption) ?_) | omega | ((repeat (first | rw [World.size_alloc] | rw [size_setCell] | rw [size_drewN] | rw [size_drew])); omega) | exact Nat.le_refl _ | (dsimp only; omega) | (simp [World.setCell]; omega))))
  have HZ := Lib.hid (show W0.heap.size = w.heap.size + 4 by rw [hW0]; simp only [World.size_alloc])
  have K2 := Lib.hid (show W0.cell? ⟨w.heap.size, 0, none⟩ = some (.slice a l.length cap) by rw [hW0]; simp [go_sem])
  have K3 := Lib.hid (show W0.cell? ⟨w.heap.size + 1, 0, none⟩ = some (.slice (some ⟨bo, oo, none⟩) p.length co) ∧ W0.cell? ⟨w.heap.size + 1, 1, none⟩ = some (.string t) by rw [hW0]; constructor <;> simp [go_sem])
  have K4 := Lib.hid (show W0.cell? ⟨w.heap.size + 2, 0, none⟩ = some (.slice none 0 0) ∧ W0.frozen? ⟨w.heap.size + 2, 0, none⟩ = false by rw [hW0]; constructor <;> simp [go_sem])
  have K5 := Lib.hid (show W0.cell? ⟨w.heap.size + 3, 0, none⟩ = some (.slice none 0 0) ∧ W0.frozen? ⟨w.heap.size + 3, 0, none⟩ = false by rw [hW0]; constructor <;> simp [go_sem])
  have HD := Lib.hid (hd.keep (show Below w.heap.size w W0 from HB0.out))
  have HP := Lib.hid (hcp.keep HB0.out)
  have HF := Lib.hid hf
  have HDw := Lib.hid hd
  have HPw := Lib.hid hcp
  clear hd hcp hf
  go_enter Tryz.func109, Tryz.ntmps109
  go_upto_region 3 with fail
  rw [← hW0]
  clear hW0
  have hz := HZ.out
  have h31 := K3.out.1
  have h32 := K3.out.2
  have h3d : W0.drew.cell? ⟨w.heap.size + 1, 0, none⟩ = some (.slice (some ⟨bo, oo, none⟩) p.length co) ∧ W0.drew.cell? ⟨w.heap.size + 1, 1, none⟩ = some (.string t) := K3.out
  have hz4 : w.heap.size + 1 < W0.heap.size := by omega
  have hne4 : w.heap.size + 1 ≠ W0.heap.size := by omega
  clear hz
  have h3b : (W0.alloc (.cells #[.slice none 0 0, .string ⟨#[]⟩] 39)).drew.cell? ⟨w.heap.size + 1, 0, none⟩ = some (.slice (some ⟨bo, oo, none⟩) p.length co) ∧ (W0.alloc (.cells #[.slice none 0 0, .string ⟨#[]⟩] 39)).drew.cell? ⟨w.heap.size + 1, 1, none⟩ = some (.string t) := ⟨keepcP (Joins.below_alloc1 W0 (.cells #[.slice none 0 0, .string ⟨#[]⟩] 39)) h31, keepcP (Joins.below_alloc1 W0 (.cells #[.slice none 0 0, .string ⟨#[]⟩] 39)) h32⟩
  have HPd := Lib.hid (show CellsAt W0.drew (some ⟨bo, oo, none⟩) (ints p) from HP.out)
  have HPb := Lib.hid (show CellsAt (W0.alloc (.cells #[.slice none 0 0, .string ⟨#[]⟩] 39)).drew (some ⟨bo, oo, none⟩) (ints p) from (show CellsAt (W0.alloc (.cells #[.slice none 0 0, .string ⟨#[]⟩] 39)) (some ⟨bo, oo, none⟩) (ints p) from HP.out.keep (Joins.below_alloc1 W0 _)))
  have HQd := Lib.hid (show Below W0.heap.size W0 W0.drew from below_drew1 (Below.refl _ _))
  have HQb := Lib.hid (show Below W0.heap.size W0 (W0.alloc (.cells #[.slice none 0 0, .string ⟨#[]⟩] 39)).drew from below_drew1 (Joins.below_alloc1 W0 (.cells #[.slice none 0 0, .string ⟨#[]⟩] 39)))
  have HVb := Lib.hid (var2 W0 39)
  have HSb := Lib.hid (show W0.heap.size + 1 ≤ (W0.alloc (.cells #[.slice none 0 0, .string ⟨#[]⟩] 39)).drew.heap.size from Nat.le_of_eq (World.size_alloc _ _).symm)
  go_cut [7] (fun s7 wx => ∃ (b7 ua uc : Nat), s7 = .pointer (some ⟨b7, 0, none⟩) ∧ W0.heap.size ≤ b7 ∧ wx.cell? ⟨b7, 0, none⟩ = some (.slice (some ⟨ua, 0, none⟩) p.length uc) ∧ wx.cell? ⟨b7, 1, none⟩ = some (.string t) ∧ wx.ownsRow W0.heap.size 3 1 (.slice (some ⟨ua, 0, none⟩) p.length uc) p.length (ints p) ∧ Below W0.heap.size W0 wx)
  case first =>
    go_region_held3 (fun w' => w'.cell? ⟨w.heap.size + 1, 0, none⟩ = some (.slice (some ⟨bo, oo, none⟩) p.length co) ∧ w'.cell? ⟨w.heap.size + 1, 1, none⟩ = some (.string t)) (first | with_reducible exact e1 | with_reducible exact h3d | with_reducible exact h3b | with_reducible exact ⟨h31, h32⟩ | exact ⟨keepcP (Joins.below_alloc1 _ _) e1.1, keepcP (Joins.below_alloc1 _ _) e1.2⟩ | exact ⟨set2o e1.1 hne4, set2o e1.2 hne4⟩) (first
      | (go_at_call 50; refine (l1Own_w bo oo p.length co p _ rfl (by first | with_reducible exact HPd.out | with_reducible exact HPb.out) (by omega)).mono ?_; rintro e w1 ⟨u, rfl, hown, hb⟩; obtain ⟨ua, uc, rfl⟩ := Joins.ownsRow_form hown (by omega); have e1 := (by first | with_reducible exact And.intro (keepcP hb h3d.1) (keepcP hb h3d.2) | with_reducible exact And.intro (keepcP hb h3b.1) (keepcP hb h3b.2)); have O1 := Lib.hid (own_lower2 (b' := W0.heap.size) hown (by first | with_reducible exact HQd.out.size | with_reducible exact HQb.out.size)); (try (with_reducible have U1 := Lib.hid (own_lower2 (b' := W0.heap.size + 1) hown HSb.out))); have B1 := Lib.hid (by first | with_reducible exact HQd.out.trans (hb.mono HQd.out.size) | with_reducible exact HQb.out.trans (hb.mono HQb.out.size)); (try (with_reducible have V1 := var2_keep HVb.out hb)); (try (obtain ⟨n0, n1, n2⟩ := V1)); clear hown hb))
    all_goals go_wp2_with fail
    all_goals go_meet
    · exact ⟨_, ua, uc, rfl, B1.out.size, by simp [go_sem], by simp [go_sem], own_keep O1.out (Joins.below_alloc1 _ _), B1.out.alloc B1.out.size _⟩
    · have hg : w1.grownBy ((w1.setCell ⟨W0.heap.size, 0, none⟩ (.slice (some ⟨ua, 0, none⟩) p.length uc)).setCell ⟨W0.heap.size, 1, none⟩ (.string t)) (some W0.heap.size) := grownBy_trans (grown_set _ _ _ _) (grown_set _ _ _ _)
      have hlt : W0.heap.size + 1 ≤ ua := (U1.out.lt ua rfl).1
      refine ⟨_, ua, uc, rfl, Nat.le_refl _, ?_, ?_, O1.out.kept hg (.inr (by simp only [Value.ownBlock, ne_eq, Option.some.injEq]; omega)), B1.out.grown hg B1.out.size (fun k hk => by cases hk; exact Nat.le_refl _)⟩
      · have hn : (⟨W0.heap.size, 1, none⟩ : Addr) ≠ ⟨W0.heap.size, 0, none⟩ := fun e => by injection e with _ e _; omega
        rw [World.cell?_setCell_other _ _ _ _ hn]
        simp [go_sem, *]
      · simp [go_sem, *]
  obtain ⟨b7, ua, uc, rfl, hb7, s0, s1, hown, hb⟩ := hcut
  have hz2 := HZ.out
  have HBw := Lib.hid (HB0.out.trans (hb.mono HB0.out.size))
  have S0 := Lib.hid s0; have S1 := Lib.hid s1; have OU := Lib.hid hown
  have C2 := Lib.hid (keepcP hb K2.out)
  have C3 := Lib.hid (And.intro (keepcP hb K3.out.1) (keepcP hb K3.out.2))
  have C5 := Lib.hid (keepcP hb K5.out.1)
  have F5 := Lib.hid (show wc.frozen? ⟨w.heap.size + 3, 0, none⟩ = false by rw [hb.frozen (p := ⟨w.heap.size + 3, 0, none⟩) (show w.heap.size + 3 < W0.heap.size by omega)]; exact K5.out.2)
  have C4 := Lib.hid (keepcP hb K4.out.1)
  have F4 := Lib.hid (show wc.frozen? ⟨w.heap.size + 2, 0, none⟩ = false by rw [hb.frozen (p := ⟨w.heap.size + 2, 0, none⟩) (show w.heap.size + 2 < W0.heap.size by omega)]; exact K4.out.2)
  have HSZ := Lib.hid (show W0.heap.size ≤ wc.heap.size from hb.size)
  clear hb hown s0 s1 HB0 K2 K3 K4 K5 HD HP
  go_wp2
  go_loopw [6, 8] (fun q i wr => ∃ (k : Nat) (y : Bool), k ≤ l.length ∧ i = .int .i64 k ∧ q = .bool y ∧ Hid (PutR l p t w wc (w.heap.size + 3) W0.heap.size k y wr)) (fun _ i _ => l.length - (intOf i).toNat)
  case atStart => exact ⟨0, false, Nat.zero_le _, rfl, rfl, Lib.hid (PutR.start C5.out F5.out HBw.out)⟩
  case round =>
    obtain ⟨k, y, hk, rfl, rfl, HR⟩ := hrel
    have hz3 := HZ.out
    have hsz := HSZ.out
    have HBr := Lib.hid (show Below w.heap.size w wr by obtain ⟨_, _, _, _, _, _, _, _, _, _, _, hb⟩ := HR.out; exact hb)
    have HGr := Lib.hid (show wc.grownBy wr (some (w.heap.size + 3)) by obtain ⟨_, _, _, _, _, _, _, _, _, _, hg, _⟩ := HR.out; exact hg)
    by_cases hlt : k < l.length
    · obtain ⟨b, off, u, rfl, c1, c2, c3⟩ := ent_at HDw.out k hlt
      have hbw : b < w.heap.size := World.block_lt_of_cell? _ _ c1
      have hki : (k : Int) < (l.length : Int) := by omega
      have hk0 : (0 : Int) ≤ (k : Int) := by omega
      have hfk := HF.out _ (List.getElem_mem hlt)
      have HM := Lib.hid (show l[k] ∈ l from List.getElem_mem hlt)
      generalize l[k] = en at c1 c2 c3 hfk HM
      obtain ⟨pl, pt⟩ := en
      dsimp only at c1 c2 c3 hfk
      have c3' := c3
      obtain ⟨au, cu, rfl, hcu, _, _, _, hcx⟩ := c3
      obtain ⟨bu, ou, rfl⟩ : ∃ bu ou, au = some ⟨bu, ou, none⟩ := by
        obtain ⟨b1, o1, e1, _⟩ := hcx _ _ (ints_at pl 0 (by omega))
        exact ⟨b1, o1, e1⟩
      have W1 := Lib.hid c1; have W2 := Lib.hid c2
      have HXp := Lib.hid (show ∀ W, Below w.heap.size w W → CellsAt W (some ⟨bu, ou, none⟩) (ints pl) from fun W hW => hcx.keep hW)
      have HRw := Lib.hid (show ∀ W, Below w.heap.size w W → Rows W (.slice (some ⟨bu, ou, none⟩) pl.length cu) pl.length 1 (ints pl) from fun W hW => c3'.keep hW)
      clear c1 c2 c3' hcx
      have c1 := keepcP HBr.out W1.out
      have c2 := keepcP HBr.out W2.out
      have m0 := grown_cellP HGr.out C2.out (by omega)
      have m1 := grown_cellP HGr.out C3.out.1 (by omega)
      have m2 := grown_cellP HGr.out C3.out.2 (by omega)
      have HCm := Lib.hid (fun n => l4Compare_any _ _ pl p (wr.drewN n) (HRw.out _ (below_drewN HBr.out n)) (HE0.out.keep (below_drewN HBr.out n)) (by omega))
      go_upto_region 7 with fail
      go_quiet ((go_at_call 99; exact Calls.quiet_of (HCm.out _)))
      go_upto_region 8 with fail
      generalize Pl.cmpI pl p = c
      have hl3 : w.heap.size + 3 < wc.heap.size := by omega
      have hl0 : w.heap.size < wc.heap.size := by omega
      have hlb : b < wc.heap.size := by omega
      have hRn0 : w.heap.size ≠ w.heap.size + 3 := by omega
      have hRnb : b ≠ w.heap.size + 3 := by omega
      clear c1 c2 m0 m1 m2
      generalize hW : wr.drewN _ = wq
      have HRq : Hid (PutR l p t w wc (w.heap.size + 3) W0.heap.size k y wq) := by rw [← hW]; exact Lib.hid (HR.out.drewN _)
      clear hW HR HBr HGr HCm
      by_cases hc : 0 ≤ c
      · cases y
        · by_cases hc0 : c = 0
          · obtain ⟨ag, cg, L, xs, hL1, hL2, ⟨g5, g6⟩, hx, hD, hm, hg, hb⟩ := HRq.out
            have HXX := Lib.hid hx; have HY := Lib.hid hD; have HMm := Lib.hid hm; have HG := Lib.hid hg; have HB := Lib.hid hb
            have hL0 : L.length ≤ k := by simpa using hL1
            clear hx hD hm hg hb hL2 hL1
            have hgg : ∀ g, Value.ownBlock (.slice ag L.length cg) = some g → wc.heap.size ≤ g := fun g hg => (HXX.out.lt g hg).1
            have n0 := grown_cellP HG.out S0.out (by omega)
            have n1 := grown_cellP HG.out S1.out (by omega)
            have hws : wc.heap.size ≤ wq.heap.size := HG.out.size
            have hR3 : w.heap.size + 3 < wq.heap.size := by omega
            have hR4 : ¬ w.heap.size + 3 = wq.heap.size := by omega
            have hbw7 := World.block_lt_of_cell? _ _ n0
            go_wp2_with (at_builtin; refine app_den rfl _ _ rfl wc.heap.size _ L.length xs rfl (HXX.out.alloc _) ⟨_, 0, none⟩ 1 (some ⟨ua, 0, none⟩) p.length uc t rfl (den_news _ _ _ _ _ rfl) (by omega) (by rw [World.size_alloc]; first | exact Nat.le_succ_of_le hws | (show wc.heap.size ≤ wq.heap.size + 1; omega)) ?_; intro v2 w2 hown2 hg2; obtain ⟨ag2, cg2, rfl⟩ := row_formO hown2; have q2 := grown_under hg2 hgg hl3 (keepcP (Joins.below_alloc1 _ _) g5); have fr2 : w2.frozen? ⟨w.heap.size + 3, 0, none⟩ = false := frozen_under hg2 hgg hl3 (by rw [World.size_alloc]; exact Nat.lt_succ_of_lt hR3) (by rw [(Joins.below_alloc1 _ _).frozen (p := ⟨w.heap.size + 3, 0, none⟩) hR3]; exact g6))
            have OUq := OU.out.kept HG.out (.inr (fun e => by have h9 := (OU.out.lt ua rfl).1; simp only [Value.ownBlock, Option.some.injEq] at e; omega))
            have HR2 := Lib.hid (PutR.snoc (k' := k + 1) (y' := true) HXX.out HY.out HMm.out HG.out HB.out hsz (Nat.le_add_right _ _) (by omega) (Below.refl _ _) OUq (.inr rfl) hown2 hg2 (by simp; omega) g5 g6)
            clear q2 fr2 hown2 hg2 g5 g6 n0 n1 HXX HY HMm HG OUq HRq hws hR3 hR4 hbw7 hgg HB hL0
            go_roundw
            case rel => exact ⟨k + 1, true, by omega, by go_num, rfl, HR2⟩
            case measure => simp [intOf]; omega
          · obtain ⟨ag, cg, L, xs, hL1, hL2, ⟨g5, g6⟩, hx, hD, hm, hg, hb⟩ := HRq.out
            have HXX := Lib.hid hx; have HY := Lib.hid hD; have HMm := Lib.hid hm; have HG := Lib.hid hg; have HB := Lib.hid hb
            have hL0 : L.length ≤ k := by simpa using hL1
            clear hx hD hm hg hb hL2 hL1
            have hgg : ∀ g, Value.ownBlock (.slice ag L.length cg) = some g → wc.heap.size ≤ g := fun g hg => (HXX.out.lt g hg).1
            have n0 := grown_cellP HG.out S0.out (by omega)
            have n1 := grown_cellP HG.out S1.out (by omega)
            have hws : wc.heap.size ≤ wq.heap.size := HG.out.size
            have hR3 : w.heap.size + 3 < wq.heap.size := by omega
            have hR4 : ¬ w.heap.size + 3 = wq.heap.size := by omega
            have hbw7 := World.block_lt_of_cell? _ _ n0
            go_upto_region 12 with (at_builtin; refine app_den rfl _ _ rfl wc.heap.size _ L.length xs rfl (HXX.out.alloc _) ⟨_, 0, none⟩ 1 (some ⟨ua, 0, none⟩) p.length uc t rfl (den_news _ _ _ _ _ rfl) (by omega) (by rw [World.size_alloc]; first | exact Nat.le_succ_of_le hws | (show wc.heap.size ≤ wq.heap.size + 1; omega)) ?_; intro v2 w2 hown2 hg2; obtain ⟨ag2, cg2, rfl⟩ := row_formO hown2; have q2 := grown_under hg2 hgg hl3 (keepcP (Joins.below_alloc1 _ _) g5); have fr2 : w2.frozen? ⟨w.heap.size + 3, 0, none⟩ = false := frozen_under hg2 hgg hl3 (by rw [World.size_alloc]; exact Nat.lt_succ_of_lt hR3) (by rw [(Joins.below_alloc1 _ _).frozen (p := ⟨w.heap.size + 3, 0, none⟩) hR3]; exact g6))
            have OUq := OU.out.kept HG.out (.inr (fun e => by have h9 := (OU.out.lt ua rfl).1; simp only [Value.ownBlock, Option.some.injEq] at e; omega))
            have HR2 := Lib.hid (PutR.snoc (k' := k) (y' := true) HXX.out HY.out HMm.out HG.out HB.out hsz (Nat.le_add_right _ _) (by omega) (Below.refl _ _) OUq (.inr rfl) hown2 hg2 (by simp; omega) g5 g6)
            clear q2 fr2 hown2 hg2 g5 g6 n0 n1 HXX HY HMm HG OUq HRq hws hR3 hR4 hbw7 hgg HB hL0
            generalize w2.setCell _ _ = wz at HR2 ⊢
            have hc1 : (c == 0) = false := beq_eq_false_iff_ne.2 hc0
            obtain ⟨ag, cg, L, xs, hL1, hL2, ⟨g5, g6⟩, hx, hD, hm, hg, hb⟩ := HR2.out
            have HXX := Lib.hid hx; have HY := Lib.hid hD; have HMm := Lib.hid hm; have HG := Lib.hid hg; have HB := Lib.hid hb
            have hLb : L.length ≤ 101 := put_le hL1 (by omega)
            clear hx hD hm hg hb hL2
            have hgg : ∀ g, Value.ownBlock (.slice ag L.length cg) = some g → wc.heap.size ≤ g := fun g hg => (HXX.out.lt g hg).1
            have m0 := grown_cellP HG.out C2.out (by omega)
            have c1 := keepcP HB.out W1.out
            have c2 := keepcP HB.out W2.out
            have hws : wc.heap.size ≤ wz.heap.size := HG.out.size
            go_upto_region 12 with fail
            refine wp_region_last (n := 19) (S := fun w' => w'.cell? ⟨w.heap.size + 3, 0, none⟩ = some (.slice ag L.length cg) ∧ w'.cell? ⟨w.heap.size, 0, none⟩ = some (.slice (some ⟨b, off, none⟩) l.length cap) ∧ w'.cell? ⟨b, off + k * 2, none⟩ = some (.slice (some ⟨bu, ou, none⟩) pl.length cu) ∧ w'.cell? ⟨b, off + k * 2 + 1, none⟩ = some (.string pt)) (by kernel_rfl) (by kernel_rfl) ⟨g5, m0, c1, c2⟩ (fun hHeld => ?_)
            refine takeH 0 47 (.pointer (some ⟨w.heap.size + 3, 0, none⟩)) rfl (by kernel_rfl) (by kernel_rfl) (by kernel_rfl) (by kernel_rfl) (fun _ _ _ _ h => h) hHeld (Or.inl ⟨rfl, fun w' hw => by obtain ⟨hw0, hw1, hw2, hw3⟩ := hw; first | rfl | (go_simp; done)⟩) ?_
            try simp only [Act.put, List.setIfInBounds_toArray, List.set_cons_zero, List.set_cons_succ]
            refine takeH 1 48 (.slice ag L.length cg) rfl (by kernel_rfl) (by kernel_rfl) (by kernel_rfl) (by kernel_rfl) (fun _ _ _ _ h => h) hHeld (Or.inl ⟨rfl, fun w' hw => by obtain ⟨hw0, hw1, hw2, hw3⟩ := hw; first | rfl | (go_simp; done)⟩) ?_
            try simp only [Act.put, List.setIfInBounds_toArray, List.set_cons_zero, List.set_cons_succ]
            refine takeH 2 49 (.pointer (some ⟨w.heap.size, 0, none⟩)) rfl (by kernel_rfl) (by kernel_rfl) (by kernel_rfl) (by kernel_rfl) (fun _ _ _ _ h => h) hHeld (Or.inl ⟨rfl, fun w' hw => by obtain ⟨hw0, hw1, hw2, hw3⟩ := hw; first | rfl | (go_simp; done)⟩) ?_
            try simp only [Act.put, List.setIfInBounds_toArray, List.set_cons_zero, List.set_cons_succ]
            refine takeH 3 50 (.slice (some ⟨b, off, none⟩) l.length cap) rfl (by kernel_rfl) (by kernel_rfl) (by kernel_rfl) (by kernel_rfl) (fun _ _ _ _ h => h) hHeld (Or.inl ⟨rfl, fun w' hw => by obtain ⟨hw0, hw1, hw2, hw3⟩ := hw; first | rfl | (go_simp; done)⟩) ?_
            try simp only [Act.put, List.setIfInBounds_toArray, List.set_cons_zero, List.set_cons_succ]
            refine takeH 4 51 (.int .i64 k) rfl (by kernel_rfl) (by kernel_rfl) (by kernel_rfl) (by kernel_rfl) (fun _ _ _ _ h => h) hHeld (Or.inl ⟨rfl, fun w' hw => by obtain ⟨hw0, hw1, hw2, hw3⟩ := hw; first | rfl | (go_simp; done)⟩) ?_
            try simp only [Act.put, List.setIfInBounds_toArray, List.set_cons_zero, List.set_cons_succ]
            refine takeH 5 52 (.pointer (some ⟨b, off + k * 2, none⟩)) rfl (by kernel_rfl) (by kernel_rfl) (by kernel_rfl) (by kernel_rfl) (fun _ _ _ _ h => h) hHeld (Or.inl ⟨rfl, fun w' hw => by obtain ⟨hw0, hw1, hw2, hw3⟩ := hw; first | rfl | (go_simp; done)⟩) ?_
            try simp only [Act.put, List.setIfInBounds_toArray, List.set_cons_zero, List.set_cons_succ]
            refine takeH 6 53 (.pointer (some ⟨b, off + k * 2, none⟩)) rfl (by kernel_rfl) (by kernel_rfl) (by kernel_rfl) (by kernel_rfl) (fun _ _ _ _ h => h) hHeld (Or.inl ⟨rfl, fun w' hw => by obtain ⟨hw0, hw1, hw2, hw3⟩ := hw; first | rfl | (go_simp; done)⟩) ?_
            try simp only [Act.put, List.setIfInBounds_toArray, List.set_cons_zero, List.set_cons_succ]
            refine takeH 7 54 (.slice (some ⟨bu, ou, none⟩) pl.length cu) rfl (by kernel_rfl) (by kernel_rfl) (by kernel_rfl) (by kernel_rfl) (fun _ _ _ _ h => h) hHeld (Or.inl ⟨rfl, fun w' hw => by obtain ⟨hw0, hw1, hw2, hw3⟩ := hw; first | rfl | (go_simp; done)⟩) ?_
            try simp only [Act.put, List.setIfInBounds_toArray, List.set_cons_zero, List.set_cons_succ]
            refine takeH 9 56 (.pointer (some ⟨w.heap.size, 0, none⟩)) rfl (by kernel_rfl) (by kernel_rfl) (by kernel_rfl) (by kernel_rfl) (fun _ _ _ _ h => h) hHeld (Or.inl ⟨rfl, fun w' hw => by obtain ⟨hw0, hw1, hw2, hw3⟩ := hw; first | rfl | (go_simp; done)⟩) ?_
            try simp only [Act.put, List.setIfInBounds_toArray, List.set_cons_zero, List.set_cons_succ]
            refine takeH 10 57 (.slice (some ⟨b, off, none⟩) l.length cap) rfl (by kernel_rfl) (by kernel_rfl) (by kernel_rfl) (by kernel_rfl) (fun _ _ _ _ h => h) hHeld (Or.inl ⟨rfl, fun w' hw => by obtain ⟨hw0, hw1, hw2, hw3⟩ := hw; first | rfl | (go_simp; done)⟩) ?_
            try simp only [Act.put, List.setIfInBounds_toArray, List.set_cons_zero, List.set_cons_succ]
            refine takeH 11 58 (.int .i64 k) rfl (by kernel_rfl) (by kernel_rfl) (by kernel_rfl) (by kernel_rfl) (fun _ _ _ _ h => h) hHeld (Or.inl ⟨rfl, fun w' hw => by obtain ⟨hw0, hw1, hw2, hw3⟩ := hw; first | rfl | (go_simp; done)⟩) ?_
            try simp only [Act.put, List.setIfInBounds_toArray, List.set_cons_zero, List.set_cons_succ]
            refine takeH 12 59 (.pointer (some ⟨b, off + k * 2, none⟩)) rfl (by kernel_rfl) (by kernel_rfl) (by kernel_rfl) (by kernel_rfl) (fun _ _ _ _ h => h) hHeld (Or.inl ⟨rfl, fun w' hw => by obtain ⟨hw0, hw1, hw2, hw3⟩ := hw; first | rfl | (go_simp; done)⟩) ?_
            try simp only [Act.put, List.setIfInBounds_toArray, List.set_cons_zero, List.set_cons_succ]
            refine takeH 13 60 (.pointer (some ⟨b, off + k * 2 + 1, none⟩)) rfl (by kernel_rfl) (by kernel_rfl) (by kernel_rfl) (by kernel_rfl) (fun _ _ _ _ h => h) hHeld (Or.inl ⟨rfl, fun w' hw => by obtain ⟨hw0, hw1, hw2, hw3⟩ := hw; first | rfl | (go_simp; done)⟩) ?_
            try simp only [Act.put, List.setIfInBounds_toArray, List.set_cons_zero, List.set_cons_succ]
            refine takeH 14 61 (.string pt) rfl (by kernel_rfl) (by kernel_rfl) (by kernel_rfl) (by kernel_rfl) (fun _ _ _ _ h => h) hHeld (Or.inl ⟨rfl, fun w' hw => by obtain ⟨hw0, hw1, hw2, hw3⟩ := hw; first | rfl | (go_simp; done)⟩) ?_
            try simp only [Act.put, List.setIfInBounds_toArray, List.set_cons_zero, List.set_cons_succ]
            refine wpAnyH_ready (rs := [8]) (by kernel_rfl) (by simp) ?_
            refine AllReadyH.cons (o := _) rfl (fun K hK => ?_) AllReadyH.nil
            go_simp
            (go_at_call 50; refine (l1Own_w bu ou pl.length cu pl _ rfl (by first | exact HXp.out _ (below_drew1 HB.out) | exact HXp.out _ (below_drewN HB.out _)) (by omega)).mono ?_; rintro e w1 ⟨uq, rfl, hown, hb⟩; obtain ⟨uqa, uqc, rfl⟩ := Joins.ownsRow_form hown (by omega))
            have e1 : w1.cell? ⟨w.heap.size + 3, 0, none⟩ = some (.slice ag L.length cg) ∧ w1.cell? ⟨w.heap.size, 0, none⟩ = some (.slice (some ⟨b, off, none⟩) l.length cap) ∧ w1.cell? ⟨b, off + k * 2, none⟩ = some (.slice (some ⟨bu, ou, none⟩) pl.length cu) ∧ w1.cell? ⟨b, off + k * 2 + 1, none⟩ = some (.string pt) := ⟨keepcP hb g5, keepcP hb m0, keepcP hb c1, keepcP hb c2⟩
            have hb1 : Below wz.heap.size wz w1 := by first | exact (below_drew1 (Below.refl wz.heap.size wz)).trans (show Below wz.heap.size wz.drew w1 from hb) | exact (below_drewN (Below.refl wz.heap.size wz) _).trans (show Below wz.heap.size (wz.drewN _) w1 from hb)
            have O1 := Lib.hid (own_lower2 (b' := W0.heap.size) hown (Nat.le_trans hsz hws))
            have OX1 := Lib.hid (own_keep HXX.out hb1)
            have HB1 := Lib.hid hb1
            have hs1 : wc.heap.size ≤ w1.heap.size := Nat.le_trans hws hb1.size
            clear hown hb hb1
            go_wp2_with fail
            refine hK.out _ _ e1 (fun hHeld2 => ?_)
            clear hK K hHeld
            have hHeld := hHeld2
            clear hHeld2
            try simp only [Act.put, List.setIfInBounds_toArray, List.set_cons_zero, List.set_cons_succ]
            refine takeH 15 62 (.agg #[.slice (some ⟨uqa, 0, none⟩) pl.length uqc, .string pt]) rfl (by kernel_rfl) (by kernel_rfl) (by kernel_rfl) (by kernel_rfl) (fun _ _ _ _ h => h) hHeld (Or.inl ⟨rfl, fun w' hw => by obtain ⟨hw0, hw1, hw2, hw3⟩ := hw; first | rfl | (go_simp; done)⟩) ?_
            try simp only [Act.put, List.setIfInBounds_toArray, List.set_cons_zero, List.set_cons_succ]
            refine wpAnyH_ready (rs := [16]) (by kernel_rfl) (by simp) ?_
            refine AllReadyH.cons (o := _) rfl (fun K hK => ?_) AllReadyH.nil
            go_simp
            refine hK.out _ _ ⟨keepcP (Joins.below_alloc1 _ _) e1.1, keepcP (Joins.below_alloc1 _ _) e1.2.1, keepcP (Joins.below_alloc1 _ _) e1.2.2.1, keepcP (Joins.below_alloc1 _ _) e1.2.2.2⟩ (fun hHeld2 => ?_)
            clear hK K hHeld
            have hHeld := hHeld2
            clear hHeld2
            try simp only [Act.put, List.setIfInBounds_toArray, List.set_cons_zero, List.set_cons_succ]
            refine wpAnyH_ready (rs := [17]) (by kernel_rfl) (by simp) ?_
            refine AllReadyH.cons (o := _) rfl (fun K hK => ?_) AllReadyH.nil
            refine step_app_den rfl (.tmp 48) (.tmp 63) rfl wc.heap.size _ L.length xs rfl (OX1.out.alloc _) ⟨_, 0, none⟩ 1 (some ⟨uqa, 0, none⟩) pl.length uqc pt rfl (den_news _ _ _ _ _ rfl) (by omega) (by rw [World.size_alloc]; omega) ?_
            intro v2 w2 hown2 hg2
            obtain ⟨ag2, cg2, rfl⟩ := row_formO hown2
            have e2 : w2.cell? ⟨w.heap.size + 3, 0, none⟩ = some (.slice ag L.length cg) ∧ w2.cell? ⟨w.heap.size, 0, none⟩ = some (.slice (some ⟨b, off, none⟩) l.length cap) ∧ w2.cell? ⟨b, off + k * 2, none⟩ = some (.slice (some ⟨bu, ou, none⟩) pl.length cu) ∧ w2.cell? ⟨b, off + k * 2 + 1, none⟩ = some (.string pt) := ⟨grown_under hg2 hgg hl3 (keepcP (Joins.below_alloc1 _ _) e1.1), grown_under hg2 hgg hl0 (keepcP (Joins.below_alloc1 _ _) e1.2.1), grown_under hg2 hgg hlb (keepcP (Joins.below_alloc1 _ _) e1.2.2.1), grown_under hg2 hgg hlb (keepcP (Joins.below_alloc1 _ _) e1.2.2.2)⟩
            have hR3 : w.heap.size + 3 < wz.heap.size := by omega
            have fr2 : w2.frozen? ⟨w.heap.size + 3, 0, none⟩ = false := frozen_under hg2 hgg hl3 (by rw [World.size_alloc]; omega) (by rw [(Joins.below_alloc1 w1 _).frozen (p := ⟨w.heap.size + 3, 0, none⟩) (show w.heap.size + 3 < w1.heap.size by omega), HB1.out.frozen (p := ⟨w.heap.size + 3, 0, none⟩) hR3]; exact g6)
            refine hK.out _ _ e2 (fun hHeld2 => ?_)
            clear hK K hHeld
            have hHeld := hHeld2
            clear hHeld2
            try simp only [Act.put, List.setIfInBounds_toArray]
            refine takeH 18 65 (.pointer (some ⟨w.heap.size + 3, 0, none⟩)) rfl (by kernel_rfl) (by kernel_rfl) (by kernel_rfl) (by kernel_rfl) (fun _ _ _ _ h => h) hHeld (Or.inl ⟨rfl, fun w' hw => by obtain ⟨hw0, hw1, hw2, hw3⟩ := hw; first | rfl | (go_simp; done)⟩) ?_
            try simp only [Act.put]
            have q2 := e2.1
            refine wpAnyH_done (by kernel_rfl) ?_ _
            refine thenLast_normal (wpOp_step (o := _) rfl (fun K hK => ?_))
            go_simp
            refine hK _ _ ?_
            have HR2 := Lib.hid (PutR.snoc (k' := k + 1) (y' := true) HXX.out HY.out HMm.out HG.out HB.out hsz (Nat.le_add_right _ _) (by omega) HB1.out O1.out (.inl HM.out) hown2 hg2 (put_up hL1) g5 g6)
            clear hK hHeld e1 e2 q2 fr2 hown2 hg2 O1 OX1 HB1 g5 g6 m0 c1 c2 HXX HY HMm HG
            go_wp2
            go_roundw
            case rel => exact ⟨k + 1, true, by omega, by go_num, rfl, HR2⟩
            case measure => simp [intOf]; omega
        · by_cases hc0 : c = 0
          · go_wp2
            go_roundw
            case rel => exact ⟨k + 1, true, by omega, by go_num, rfl, Lib.hid HRq.out.next⟩
            case measure => simp [intOf]; omega
          · have hc1 : (c == 0) = false := beq_eq_false_iff_ne.2 hc0
            obtain ⟨ag, cg, L, xs, hL1, hL2, ⟨g5, g6⟩, hx, hD, hm, hg, hb⟩ := HRq.out
            have HXX := Lib.hid hx; have HY := Lib.hid hD; have HMm := Lib.hid hm; have HG := Lib.hid hg; have HB := Lib.hid hb
            have hLb : L.length ≤ 101 := put_le hL1 (by omega)
            clear hx hD hm hg hb hL2
            have hgg : ∀ g, Value.ownBlock (.slice ag L.length cg) = some g → wc.heap.size ≤ g := fun g hg => (HXX.out.lt g hg).1
            have m0 := grown_cellP HG.out C2.out (by omega)
            have c1 := keepcP HB.out W1.out
            have c2 := keepcP HB.out W2.out
            have hws : wc.heap.size ≤ wq.heap.size := HG.out.size
            go_upto_region 12 with fail
            refine wp_region_last (n := 19) (S := fun w' => w'.cell? ⟨w.heap.size + 3, 0, none⟩ = some (.slice ag L.length cg) ∧ w'.cell? ⟨w.heap.size, 0, none⟩ = some (.slice (some ⟨b, off, none⟩) l.length cap) ∧ w'.cell? ⟨b, off + k * 2, none⟩ = some (.slice (some ⟨bu, ou, none⟩) pl.length cu) ∧ w'.cell? ⟨b, off + k * 2 + 1, none⟩ = some (.string pt)) (by kernel_rfl) (by kernel_rfl) ⟨g5, m0, c1, c2⟩ (fun hHeld => ?_)
            refine takeH 0 47 (.pointer (some ⟨w.heap.size + 3, 0, none⟩)) rfl (by kernel_rfl) (by kernel_rfl) (by kernel_rfl) (by kernel_rfl) (fun _ _ _ _ h => h) hHeld (Or.inl ⟨rfl, fun w' hw => by obtain ⟨hw0, hw1, hw2, hw3⟩ := hw; first | rfl | (go_simp; done)⟩) ?_
            try simp only [Act.put, List.setIfInBounds_toArray, List.set_cons_zero, List.set_cons_succ]
            refine takeH 1 48 (.slice ag L.length cg) rfl (by kernel_rfl) (by kernel_rfl) (by kernel_rfl) (by kernel_rfl) (fun _ _ _ _ h => h) hHeld (Or.inl ⟨rfl, fun w' hw => by obtain ⟨hw0, hw1, hw2, hw3⟩ := hw; first | rfl | (go_simp; done)⟩) ?_
            try simp only [Act.put, List.setIfInBounds_toArray, List.set_cons_zero, List.set_cons_succ]
            refine takeH 2 49 (.pointer (some ⟨w.heap.size, 0, none⟩)) rfl (by kernel_rfl) (by kernel_rfl) (by kernel_rfl) (by kernel_rfl) (fun _ _ _ _ h => h) hHeld (Or.inl ⟨rfl, fun w' hw => by obtain ⟨hw0, hw1, hw2, hw3⟩ := hw; first | rfl | (go_simp; done)⟩) ?_
            try simp only [Act.put, List.setIfInBounds_toArray, List.set_cons_zero, List.set_cons_succ]
            refine takeH 3 50 (.slice (some ⟨b, off, none⟩) l.length cap) rfl (by kernel_rfl) (by kernel_rfl) (by kernel_rfl) (by kernel_rfl) (fun _ _ _ _ h => h) hHeld (Or.inl ⟨rfl, fun w' hw => by obtain ⟨hw0, hw1, hw2, hw3⟩ := hw; first | rfl | (go_simp; done)⟩) ?_
            try simp only [Act.put, List.setIfInBounds_toArray, List.set_cons_zero, List.set_cons_succ]
            refine takeH 4 51 (.int .i64 k) rfl (by kernel_rfl) (by kernel_rfl) (by kernel_rfl) (by kernel_rfl) (fun _ _ _ _ h => h) hHeld (Or.inl ⟨rfl, fun w' hw => by obtain ⟨hw0, hw1, hw2, hw3⟩ := hw; first | rfl | (go_simp; done)⟩) ?_
            try simp only [Act.put, List.setIfInBounds_toArray, List.set_cons_zero, List.set_cons_succ]
            refine takeH 5 52 (.pointer (some ⟨b, off + k * 2, none⟩)) rfl (by kernel_rfl) (by kernel_rfl) (by kernel_rfl) (by kernel_rfl) (fun _ _ _ _ h => h) hHeld (Or.inl ⟨rfl, fun w' hw => by obtain ⟨hw0, hw1, hw2, hw3⟩ := hw; first | rfl | (go_simp; done)⟩) ?_
            try simp only [Act.put, List.setIfInBounds_toArray, List.set_cons_zero, List.set_cons_succ]
            refine takeH 6 53 (.pointer (some ⟨b, off + k * 2, none⟩)) rfl (by kernel_rfl) (by kernel_rfl) (by kernel_rfl) (by kernel_rfl) (fun _ _ _ _ h => h) hHeld (Or.inl ⟨rfl, fun w' hw => by obtain ⟨hw0, hw1, hw2, hw3⟩ := hw; first | rfl | (go_simp; done)⟩) ?_
            try simp only [Act.put, List.setIfInBounds_toArray, List.set_cons_zero, List.set_cons_succ]
            refine takeH 7 54 (.slice (some ⟨bu, ou, none⟩) pl.length cu) rfl (by kernel_rfl) (by kernel_rfl) (by kernel_rfl) (by kernel_rfl) (fun _ _ _ _ h => h) hHeld (Or.inl ⟨rfl, fun w' hw => by obtain ⟨hw0, hw1, hw2, hw3⟩ := hw; first | rfl | (go_simp; done)⟩) ?_
            try simp only [Act.put, List.setIfInBounds_toArray, List.set_cons_zero, List.set_cons_succ]
            refine takeH 9 56 (.pointer (some ⟨w.heap.size, 0, none⟩)) rfl (by kernel_rfl) (by kernel_rfl) (by kernel_rfl) (by kernel_rfl) (fun _ _ _ _ h => h) hHeld (Or.inl ⟨rfl, fun w' hw => by obtain ⟨hw0, hw1, hw2, hw3⟩ := hw; first | rfl | (go_simp; done)⟩) ?_
            try simp only [Act.put, List.setIfInBounds_toArray, List.set_cons_zero, List.set_cons_succ]
            refine takeH 10 57 (.slice (some ⟨b, off, none⟩) l.length cap) rfl (by kernel_rfl) (by kernel_rfl) (by kernel_rfl) (by kernel_rfl) (fun _ _ _ _ h => h) hHeld (Or.inl ⟨rfl, fun w' hw => by obtain ⟨hw0, hw1, hw2, hw3⟩ := hw; first | rfl | (go_simp; done)⟩) ?_
            try simp only [Act.put, List.setIfInBounds_toArray, List.set_cons_zero, List.set_cons_succ]
            refine takeH 11 58 (.int .i64 k) rfl (by kernel_rfl) (by kernel_rfl) (by kernel_rfl) (by kernel_rfl) (fun _ _ _ _ h => h) hHeld (Or.inl ⟨rfl, fun w' hw => by obtain ⟨hw0, hw1, hw2, hw3⟩ := hw; first | rfl | (go_simp; done)⟩) ?_
            try simp only [Act.put, List.setIfInBounds_toArray, List.set_cons_zero, List.set_cons_succ]
            refine takeH 12 59 (.pointer (some ⟨b, off + k * 2, none⟩)) rfl (by kernel_rfl) (by kernel_rfl) (by kernel_rfl) (by kernel_rfl) (fun _ _ _ _ h => h) hHeld (Or.inl ⟨rfl, fun w' hw => by obtain ⟨hw0, hw1, hw2, hw3⟩ := hw; first | rfl | (go_simp; done)⟩) ?_
            try simp only [Act.put, List.setIfInBounds_toArray, List.set_cons_zero, List.set_cons_succ]
            refine takeH 13 60 (.pointer (some ⟨b, off + k * 2 + 1, none⟩)) rfl (by kernel_rfl) (by kernel_rfl) (by kernel_rfl) (by kernel_rfl) (fun _ _ _ _ h => h) hHeld (Or.inl ⟨rfl, fun w' hw => by obtain ⟨hw0, hw1, hw2, hw3⟩ := hw; first | rfl | (go_simp; done)⟩) ?_
            try simp only [Act.put, List.setIfInBounds_toArray, List.set_cons_zero, List.set_cons_succ]
            refine takeH 14 61 (.string pt) rfl (by kernel_rfl) (by kernel_rfl) (by kernel_rfl) (by kernel_rfl) (fun _ _ _ _ h => h) hHeld (Or.inl ⟨rfl, fun w' hw => by obtain ⟨hw0, hw1, hw2, hw3⟩ := hw; first | rfl | (go_simp; done)⟩) ?_
            try simp only [Act.put, List.setIfInBounds_toArray, List.set_cons_zero, List.set_cons_succ]
            refine wpAnyH_ready (rs := [8]) (by kernel_rfl) (by simp) ?_
            refine AllReadyH.cons (o := _) rfl (fun K hK => ?_) AllReadyH.nil
            go_simp
            (go_at_call 50; refine (l1Own_w bu ou pl.length cu pl _ rfl (by first | exact HXp.out _ (below_drew1 HB.out) | exact HXp.out _ (below_drewN HB.out _)) (by omega)).mono ?_; rintro e w1 ⟨uq, rfl, hown, hb⟩; obtain ⟨uqa, uqc, rfl⟩ := Joins.ownsRow_form hown (by omega))
            have e1 : w1.cell? ⟨w.heap.size + 3, 0, none⟩ = some (.slice ag L.length cg) ∧ w1.cell? ⟨w.heap.size, 0, none⟩ = some (.slice (some ⟨b, off, none⟩) l.length cap) ∧ w1.cell? ⟨b, off + k * 2, none⟩ = some (.slice (some ⟨bu, ou, none⟩) pl.length cu) ∧ w1.cell? ⟨b, off + k * 2 + 1, none⟩ = some (.string pt) := ⟨keepcP hb g5, keepcP hb m0, keepcP hb c1, keepcP hb c2⟩
            have hb1 : Below wq.heap.size wq w1 := by first | exact (below_drew1 (Below.refl wq.heap.size wq)).trans (show Below wq.heap.size wq.drew w1 from hb) | exact (below_drewN (Below.refl wq.heap.size wq) _).trans (show Below wq.heap.size (wq.drewN _) w1 from hb)
            have O1 := Lib.hid (own_lower2 (b' := W0.heap.size) hown (Nat.le_trans hsz hws))
            have OX1 := Lib.hid (own_keep HXX.out hb1)
            have HB1 := Lib.hid hb1
            have hs1 : wc.heap.size ≤ w1.heap.size := Nat.le_trans hws hb1.size
            clear hown hb hb1
            go_wp2_with fail
            refine hK.out _ _ e1 (fun hHeld2 => ?_)
            clear hK K hHeld
            have hHeld := hHeld2
            clear hHeld2
            try simp only [Act.put, List.setIfInBounds_toArray, List.set_cons_zero, List.set_cons_succ]
            refine takeH 15 62 (.agg #[.slice (some ⟨uqa, 0, none⟩) pl.length uqc, .string pt]) rfl (by kernel_rfl) (by kernel_rfl) (by kernel_rfl) (by kernel_rfl) (fun _ _ _ _ h => h) hHeld (Or.inl ⟨rfl, fun w' hw => by obtain ⟨hw0, hw1, hw2, hw3⟩ := hw; first | rfl | (go_simp; done)⟩) ?_
            try simp only [Act.put, List.setIfInBounds_toArray, List.set_cons_zero, List.set_cons_succ]
            refine wpAnyH_ready (rs := [16]) (by kernel_rfl) (by simp) ?_
            refine AllReadyH.cons (o := _) rfl (fun K hK => ?_) AllReadyH.nil
            go_simp
            refine hK.out _ _ ⟨keepcP (Joins.below_alloc1 _ _) e1.1, keepcP (Joins.below_alloc1 _ _) e1.2.1, keepcP (Joins.below_alloc1 _ _) e1.2.2.1, keepcP (Joins.below_alloc1 _ _) e1.2.2.2⟩ (fun hHeld2 => ?_)
            clear hK K hHeld
            have hHeld := hHeld2
            clear hHeld2
            try simp only [Act.put, List.setIfInBounds_toArray, List.set_cons_zero, List.set_cons_succ]
            refine wpAnyH_ready (rs := [17]) (by kernel_rfl) (by simp) ?_
            refine AllReadyH.cons (o := _) rfl (fun K hK => ?_) AllReadyH.nil
            refine step_app_den rfl (.tmp 48) (.tmp 63) rfl wc.heap.size _ L.length xs rfl (OX1.out.alloc _) ⟨_, 0, none⟩ 1 (some ⟨uqa, 0, none⟩) pl.length uqc pt rfl (den_news _ _ _ _ _ rfl) (by omega) (by rw [World.size_alloc]; omega) ?_
            intro v2 w2 hown2 hg2
            obtain ⟨ag2, cg2, rfl⟩ := row_formO hown2
            have e2 : w2.cell? ⟨w.heap.size + 3, 0, none⟩ = some (.slice ag L.length cg) ∧ w2.cell? ⟨w.heap.size, 0, none⟩ = some (.slice (some ⟨b, off, none⟩) l.length cap) ∧ w2.cell? ⟨b, off + k * 2, none⟩ = some (.slice (some ⟨bu, ou, none⟩) pl.length cu) ∧ w2.cell? ⟨b, off + k * 2 + 1, none⟩ = some (.string pt) := ⟨grown_under hg2 hgg hl3 (keepcP (Joins.below_alloc1 _ _) e1.1), grown_under hg2 hgg hl0 (keepcP (Joins.below_alloc1 _ _) e1.2.1), grown_under hg2 hgg hlb (keepcP (Joins.below_alloc1 _ _) e1.2.2.1), grown_under hg2 hgg hlb (keepcP (Joins.below_alloc1 _ _) e1.2.2.2)⟩
            have hR3 : w.heap.size + 3 < wq.heap.size := by omega
            have fr2 : w2.frozen? ⟨w.heap.size + 3, 0, none⟩ = false := frozen_under hg2 hgg hl3 (by rw [World.size_alloc]; omega) (by rw [(Joins.below_alloc1 w1 _).frozen (p := ⟨w.heap.size + 3, 0, none⟩) (show w.heap.size + 3 < w1.heap.size by omega), HB1.out.frozen (p := ⟨w.heap.size + 3, 0, none⟩) hR3]; exact g6)
            refine hK.out _ _ e2 (fun hHeld2 => ?_)
            clear hK K hHeld
            have hHeld := hHeld2
            clear hHeld2
            try simp only [Act.put, List.setIfInBounds_toArray]
            refine takeH 18 65 (.pointer (some ⟨w.heap.size + 3, 0, none⟩)) rfl (by kernel_rfl) (by kernel_rfl) (by kernel_rfl) (by kernel_rfl) (fun _ _ _ _ h => h) hHeld (Or.inl ⟨rfl, fun w' hw => by obtain ⟨hw0, hw1, hw2, hw3⟩ := hw; first | rfl | (go_simp; done)⟩) ?_
            try simp only [Act.put]
            have q2 := e2.1
            refine wpAnyH_done (by kernel_rfl) ?_ _
            refine thenLast_normal (wpOp_step (o := _) rfl (fun K hK => ?_))
            go_simp
            refine hK _ _ ?_
            have HR2 := Lib.hid (PutR.snoc (k' := k + 1) (y' := true) HXX.out HY.out HMm.out HG.out HB.out hsz (Nat.le_add_right _ _) (by omega) HB1.out O1.out (.inl HM.out) hown2 hg2 (put_up hL1) g5 g6)
            clear hK hHeld e1 e2 q2 fr2 hown2 hg2 O1 OX1 HB1 g5 g6 m0 c1 c2 HXX HY HMm HG
            go_wp2
            go_roundw
            case rel => exact ⟨k + 1, true, by omega, by go_num, rfl, HR2⟩
            case measure => simp [intOf]; omega
      · have hc0 : ¬ c = 0 := by omega
        have hc1 : (c == 0) = false := beq_eq_false_iff_ne.2 hc0
        obtain ⟨ag, cg, L, xs, hL1, hL2, ⟨g5, g6⟩, hx, hD, hm, hg, hb⟩ := HRq.out
        have HXX := Lib.hid hx; have HY := Lib.hid hD; have HMm := Lib.hid hm; have HG := Lib.hid hg; have HB := Lib.hid hb
        have hLb : L.length ≤ 101 := put_le hL1 (by omega)
        clear hx hD hm hg hb hL2
        have hgg : ∀ g, Value.ownBlock (.slice ag L.length cg) = some g → wc.heap.size ≤ g := fun g hg => (HXX.out.lt g hg).1
        have m0 := grown_cellP HG.out C2.out (by omega)
        have c1 := keepcP HB.out W1.out
        have c2 := keepcP HB.out W2.out
        have hws : wc.heap.size ≤ wq.heap.size := HG.out.size
        go_upto_region 12 with fail
        refine wp_region_last (n := 19) (S := fun w' => w'.cell? ⟨w.heap.size + 3, 0, none⟩ = some (.slice ag L.length cg) ∧ w'.cell? ⟨w.heap.size, 0, none⟩ = some (.slice (some ⟨b, off, none⟩) l.length cap) ∧ w'.cell? ⟨b, off + k * 2, none⟩ = some (.slice (some ⟨bu, ou, none⟩) pl.length cu) ∧ w'.cell? ⟨b, off + k * 2 + 1, none⟩ = some (.string pt)) (by kernel_rfl) (by kernel_rfl) ⟨g5, m0, c1, c2⟩ (fun hHeld => ?_)
        refine takeH 0 47 (.pointer (some ⟨w.heap.size + 3, 0, none⟩)) rfl (by kernel_rfl) (by kernel_rfl) (by kernel_rfl) (by kernel_rfl) (fun _ _ _ _ h => h) hHeld (Or.inl ⟨rfl, fun w' hw => by obtain ⟨hw0, hw1, hw2, hw3⟩ := hw; first | rfl | (go_simp; done)⟩) ?_
        try simp only [Act.put, List.setIfInBounds_toArray, List.set_cons_zero, List.set_cons_succ]
        refine takeH 1 48 (.slice ag L.length cg) rfl (by kernel_rfl) (by kernel_rfl) (by kernel_rfl) (by kernel_rfl) (fun _ _ _ _ h => h) hHeld (Or.inl ⟨rfl, fun w' hw => by obtain ⟨hw0, hw1, hw2, hw3⟩ := hw; first | rfl | (go_simp; done)⟩) ?_
        try simp only [Act.put, List.setIfInBounds_toArray, List.set_cons_zero, List.set_cons_succ]
        refine takeH 2 49 (.pointer (some ⟨w.heap.size, 0, none⟩)) rfl (by kernel_rfl) (by kernel_rfl) (by kernel_rfl) (by kernel_rfl) (fun _ _ _ _ h => h) hHeld (Or.inl ⟨rfl, fun w' hw => by obtain ⟨hw0, hw1, hw2, hw3⟩ := hw; first | rfl | (go_simp; done)⟩) ?_
        try simp only [Act.put, List.setIfInBounds_toArray, List.set_cons_zero, List.set_cons_succ]
        refine takeH 3 50 (.slice (some ⟨b, off, none⟩) l.length cap) rfl (by kernel_rfl) (by kernel_rfl) (by kernel_rfl) (by kernel_rfl) (fun _ _ _ _ h => h) hHeld (Or.inl ⟨rfl, fun w' hw => by obtain ⟨hw0, hw1, hw2, hw3⟩ := hw; first | rfl | (go_simp; done)⟩) ?_
        try simp only [Act.put, List.setIfInBounds_toArray, List.set_cons_zero, List.set_cons_succ]
        refine takeH 4 51 (.int .i64 k) rfl (by kernel_rfl) (by kernel_rfl) (by kernel_rfl) (by kernel_rfl) (fun _ _ _ _ h => h) hHeld (Or.inl ⟨rfl, fun w' hw => by obtain ⟨hw0, hw1, hw2, hw3⟩ := hw; first | rfl | (go_simp; done)⟩) ?_
        try simp only [Act.put, List.setIfInBounds_toArray, List.set_cons_zero, List.set_cons_succ]
        refine takeH 5 52 (.pointer (some ⟨b, off + k * 2, none⟩)) rfl (by kernel_rfl) (by kernel_rfl) (by kernel_rfl) (by kernel_rfl) (fun _ _ _ _ h => h) hHeld (Or.inl ⟨rfl, fun w' hw => by obtain ⟨hw0, hw1, hw2, hw3⟩ := hw; first | rfl | (go_simp; done)⟩) ?_
        try simp only [Act.put, List.setIfInBounds_toArray, List.set_cons_zero, List.set_cons_succ]
        refine takeH 6 53 (.pointer (some ⟨b, off + k * 2, none⟩)) rfl (by kernel_rfl) (by kernel_rfl) (by kernel_rfl) (by kernel_rfl) (fun _ _ _ _ h => h) hHeld (Or.inl ⟨rfl, fun w' hw => by obtain ⟨hw0, hw1, hw2, hw3⟩ := hw; first | rfl | (go_simp; done)⟩) ?_
        try simp only [Act.put, List.setIfInBounds_toArray, List.set_cons_zero, List.set_cons_succ]
        refine takeH 7 54 (.slice (some ⟨bu, ou, none⟩) pl.length cu) rfl (by kernel_rfl) (by kernel_rfl) (by kernel_rfl) (by kernel_rfl) (fun _ _ _ _ h => h) hHeld (Or.inl ⟨rfl, fun w' hw => by obtain ⟨hw0, hw1, hw2, hw3⟩ := hw; first | rfl | (go_simp; done)⟩) ?_
        try simp only [Act.put, List.setIfInBounds_toArray, List.set_cons_zero, List.set_cons_succ]
        refine takeH 9 56 (.pointer (some ⟨w.heap.size, 0, none⟩)) rfl (by kernel_rfl) (by kernel_rfl) (by kernel_rfl) (by kernel_rfl) (fun _ _ _ _ h => h) hHeld (Or.inl ⟨rfl, fun w' hw => by obtain ⟨hw0, hw1, hw2, hw3⟩ := hw; first | rfl | (go_simp; done)⟩) ?_
        try simp only [Act.put, List.setIfInBounds_toArray, List.set_cons_zero, List.set_cons_succ]
        refine takeH 10 57 (.slice (some ⟨b, off, none⟩) l.length cap) rfl (by kernel_rfl) (by kernel_rfl) (by kernel_rfl) (by kernel_rfl) (fun _ _ _ _ h => h) hHeld (Or.inl ⟨rfl, fun w' hw => by obtain ⟨hw0, hw1, hw2, hw3⟩ := hw; first | rfl | (go_simp; done)⟩) ?_
        try simp only [Act.put, List.setIfInBounds_toArray, List.set_cons_zero, List.set_cons_succ]
        refine takeH 11 58 (.int .i64 k) rfl (by kernel_rfl) (by kernel_rfl) (by kernel_rfl) (by kernel_rfl) (fun _ _ _ _ h => h) hHeld (Or.inl ⟨rfl, fun w' hw => by obtain ⟨hw0, hw1, hw2, hw3⟩ := hw; first | rfl | (go_simp; done)⟩) ?_
        try simp only [Act.put, List.setIfInBounds_toArray, List.set_cons_zero, List.set_cons_succ]
        refine takeH 12 59 (.pointer (some ⟨b, off + k * 2, none⟩)) rfl (by kernel_rfl) (by kernel_rfl) (by kernel_rfl) (by kernel_rfl) (fun _ _ _ _ h => h) hHeld (Or.inl ⟨rfl, fun w' hw => by obtain ⟨hw0, hw1, hw2, hw3⟩ := hw; first | rfl | (go_simp; done)⟩) ?_
        try simp only [Act.put, List.setIfInBounds_toArray, List.set_cons_zero, List.set_cons_succ]
        refine takeH 13 60 (.pointer (some ⟨b, off + k * 2 + 1, none⟩)) rfl (by kernel_rfl) (by kernel_rfl) (by kernel_rfl) (by kernel_rfl) (fun _ _ _ _ h => h) hHeld (Or.inl ⟨rfl, fun w' hw => by obtain ⟨hw0, hw1, hw2, hw3⟩ := hw; first | rfl | (go_simp; done)⟩) ?_
        try simp only [Act.put, List.setIfInBounds_toArray, List.set_cons_zero, List.set_cons_succ]
        refine takeH 14 61 (.string pt) rfl (by kernel_rfl) (by kernel_rfl) (by kernel_rfl) (by kernel_rfl) (fun _ _ _ _ h => h) hHeld (Or.inl ⟨rfl, fun w' hw => by obtain ⟨hw0, hw1, hw2, hw3⟩ := hw; first | rfl | (go_simp; done)⟩) ?_
        try simp only [Act.put, List.setIfInBounds_toArray, List.set_cons_zero, List.set_cons_succ]
        refine wpAnyH_ready (rs := [8]) (by kernel_rfl) (by simp) ?_
        refine AllReadyH.cons (o := _) rfl (fun K hK => ?_) AllReadyH.nil
        go_simp
        (go_at_call 50; refine (l1Own_w bu ou pl.length cu pl _ rfl (by first | exact HXp.out _ (below_drew1 HB.out) | exact HXp.out _ (below_drewN HB.out _)) (by omega)).mono ?_; rintro e w1 ⟨uq, rfl, hown, hb⟩; obtain ⟨uqa, uqc, rfl⟩ := Joins.ownsRow_form hown (by omega))
        have e1 : w1.cell? ⟨w.heap.size + 3, 0, none⟩ = some (.slice ag L.length cg) ∧ w1.cell? ⟨w.heap.size, 0, none⟩ = some (.slice (some ⟨b, off, none⟩) l.length cap) ∧ w1.cell? ⟨b, off + k * 2, none⟩ = some (.slice (some ⟨bu, ou, none⟩) pl.length cu) ∧ w1.cell? ⟨b, off + k * 2 + 1, none⟩ = some (.string pt) := ⟨keepcP hb g5, keepcP hb m0, keepcP hb c1, keepcP hb c2⟩
        have hb1 : Below wq.heap.size wq w1 := by first | exact (below_drew1 (Below.refl wq.heap.size wq)).trans (show Below wq.heap.size wq.drew w1 from hb) | exact (below_drewN (Below.refl wq.heap.size wq) _).trans (show Below wq.heap.size (wq.drewN _) w1 from hb)
        have O1 := Lib.hid (own_lower2 (b' := W0.heap.size) hown (Nat.le_trans hsz hws))
        have OX1 := Lib.hid (own_keep HXX.out hb1)
        have HB1 := Lib.hid hb1
        have hs1 : wc.heap.size ≤ w1.heap.size := Nat.le_trans hws hb1.size
        clear hown hb hb1
        go_wp2_with fail
        refine hK.out _ _ e1 (fun hHeld2 => ?_)
        clear hK K hHeld
        have hHeld := hHeld2
        clear hHeld2
        try simp only [Act.put, List.setIfInBounds_toArray, List.set_cons_zero, List.set_cons_succ]
        refine takeH 15 62 (.agg #[.slice (some ⟨uqa, 0, none⟩) pl.length uqc, .string pt]) rfl (by kernel_rfl) (by kernel_rfl) (by kernel_rfl) (by kernel_rfl) (fun _ _ _ _ h => h) hHeld (Or.inl ⟨rfl, fun w' hw => by obtain ⟨hw0, hw1, hw2, hw3⟩ := hw; first | rfl | (go_simp; done)⟩) ?_
        try simp only [Act.put, List.setIfInBounds_toArray, List.set_cons_zero, List.set_cons_succ]
        refine wpAnyH_ready (rs := [16]) (by kernel_rfl) (by simp) ?_
        refine AllReadyH.cons (o := _) rfl (fun K hK => ?_) AllReadyH.nil
        go_simp
        refine hK.out _ _ ⟨keepcP (Joins.below_alloc1 _ _) e1.1, keepcP (Joins.below_alloc1 _ _) e1.2.1, keepcP (Joins.below_alloc1 _ _) e1.2.2.1, keepcP (Joins.below_alloc1 _ _) e1.2.2.2⟩ (fun hHeld2 => ?_)
        clear hK K hHeld
        have hHeld := hHeld2
        clear hHeld2
        try simp only [Act.put, List.setIfInBounds_toArray, List.set_cons_zero, List.set_cons_succ]
        refine wpAnyH_ready (rs := [17]) (by kernel_rfl) (by simp) ?_
        refine AllReadyH.cons (o := _) rfl (fun K hK => ?_) AllReadyH.nil
        refine step_app_den rfl (.tmp 48) (.tmp 63) rfl wc.heap.size _ L.length xs rfl (OX1.out.alloc _) ⟨_, 0, none⟩ 1 (some ⟨uqa, 0, none⟩) pl.length uqc pt rfl (den_news _ _ _ _ _ rfl) (by omega) (by rw [World.size_alloc]; omega) ?_
        intro v2 w2 hown2 hg2
        obtain ⟨ag2, cg2, rfl⟩ := row_formO hown2
        have e2 : w2.cell? ⟨w.heap.size + 3, 0, none⟩ = some (.slice ag L.length cg) ∧ w2.cell? ⟨w.heap.size, 0, none⟩ = some (.slice (some ⟨b, off, none⟩) l.length cap) ∧ w2.cell? ⟨b, off + k * 2, none⟩ = some (.slice (some ⟨bu, ou, none⟩) pl.length cu) ∧ w2.cell? ⟨b, off + k * 2 + 1, none⟩ = some (.string pt) := ⟨grown_under hg2 hgg hl3 (keepcP (Joins.below_alloc1 _ _) e1.1), grown_under hg2 hgg hl0 (keepcP (Joins.below_alloc1 _ _) e1.2.1), grown_under hg2 hgg hlb (keepcP (Joins.below_alloc1 _ _) e1.2.2.1), grown_under hg2 hgg hlb (keepcP (Joins.below_alloc1 _ _) e1.2.2.2)⟩
        have hR3 : w.heap.size + 3 < wq.heap.size := by omega
        have fr2 : w2.frozen? ⟨w.heap.size + 3, 0, none⟩ = false := frozen_under hg2 hgg hl3 (by rw [World.size_alloc]; omega) (by rw [(Joins.below_alloc1 w1 _).frozen (p := ⟨w.heap.size + 3, 0, none⟩) (show w.heap.size + 3 < w1.heap.size by omega), HB1.out.frozen (p := ⟨w.heap.size + 3, 0, none⟩) hR3]; exact g6)
        refine hK.out _ _ e2 (fun hHeld2 => ?_)
        clear hK K hHeld
        have hHeld := hHeld2
        clear hHeld2
        try simp only [Act.put, List.setIfInBounds_toArray]
        refine takeH 18 65 (.pointer (some ⟨w.heap.size + 3, 0, none⟩)) rfl (by kernel_rfl) (by kernel_rfl) (by kernel_rfl) (by kernel_rfl) (fun _ _ _ _ h => h) hHeld (Or.inl ⟨rfl, fun w' hw => by obtain ⟨hw0, hw1, hw2, hw3⟩ := hw; first | rfl | (go_simp; done)⟩) ?_
        try simp only [Act.put]
        have q2 := e2.1
        refine wpAnyH_done (by kernel_rfl) ?_ _
        refine thenLast_normal (wpOp_step (o := _) rfl (fun K hK => ?_))
        go_simp
        refine hK _ _ ?_
        have HR2 := Lib.hid (PutR.snoc (k' := k + 1) (y' := y) HXX.out HY.out HMm.out HG.out HB.out hsz (Nat.le_add_right _ _) (by omega) HB1.out O1.out (.inl HM.out) hown2 hg2 (put_up hL1) g5 g6)
        clear hK hHeld e1 e2 q2 fr2 hown2 hg2 O1 OX1 HB1 g5 g6 m0 c1 c2 HXX HY HMm HG
        go_wp2
        go_roundw
        case rel => exact ⟨k + 1, y, by omega, by go_num, rfl, HR2⟩
        case measure => simp [intOf]; omega
    · have hki : ¬ (k : Int) < (l.length : Int) := by omega
      have hl3 : w.heap.size + 3 < wc.heap.size := by omega
      have m0 := grown_cellP HGr.out C2.out (by omega)
      have HRq := HR
      cases y
      · obtain ⟨ag, cg, L, xs, hL1, hL2, ⟨g5, g6⟩, hx, hD, hm, hg, hb⟩ := HRq.out
        have HXX := Lib.hid hx; have HY := Lib.hid hD; have HMm := Lib.hid hm; have HG := Lib.hid hg; have HB := Lib.hid hb
        have hL0 : L.length ≤ k := by simpa using hL1
        clear hx hD hm hg hb hL2 hL1
        have hgg : ∀ g, Value.ownBlock (.slice ag L.length cg) = some g → wc.heap.size ≤ g := fun g hg => (HXX.out.lt g hg).1
        have n0 := grown_cellP HG.out S0.out (by omega)
        have n1 := grown_cellP HG.out S1.out (by omega)
        have hws : wc.heap.size ≤ wr.heap.size := HG.out.size
        have hR3 : w.heap.size + 3 < wr.heap.size := by omega
        have hR4 : ¬ w.heap.size + 3 = wr.heap.size := by omega
        have hbw7 := World.block_lt_of_cell? _ _ n0
        go_upto_region 15 with (at_builtin; refine app_den rfl _ _ rfl wc.heap.size _ L.length xs rfl (HXX.out.alloc _) ⟨_, 0, none⟩ 1 (some ⟨ua, 0, none⟩) p.length uc t rfl (den_news _ _ _ _ _ rfl) (by omega) (by rw [World.size_alloc]; first | exact Nat.le_succ_of_le hws | (show wc.heap.size ≤ wr.heap.size + 1; omega)) ?_; intro v2 w2 hown2 hg2; obtain ⟨ag2, cg2, rfl⟩ := row_formO hown2; have q2 := grown_under hg2 hgg hl3 (keepcP (Joins.below_alloc1 _ _) g5); have fr2 : w2.frozen? ⟨w.heap.size + 3, 0, none⟩ = false := frozen_under hg2 hgg hl3 (by rw [World.size_alloc]; exact Nat.lt_succ_of_lt hR3) (by rw [(Joins.below_alloc1 _ _).frozen (p := ⟨w.heap.size + 3, 0, none⟩) hR3]; exact g6))
        have OUq := OU.out.kept HG.out (.inr (fun e => by have h9 := (OU.out.lt ua rfl).1; simp only [Value.ownBlock, Option.some.injEq] at e; omega))
        have HR2 := Lib.hid (PutR.snoc (k' := k) (y' := true) HXX.out HY.out HMm.out HG.out HB.out hsz (Nat.le_add_right _ _) (by omega) (Below.refl _ _) OUq (.inr rfl) hown2 hg2 (by simp; omega) g5 g6)
        clear q2 fr2 hown2 hg2 g5 g6 n0 n1 HXX HY HMm HG OUq HRq hws hR3 hR4 hbw7 hgg HB hL0
        generalize w2.setCell _ _ = wz at HR2 ⊢
        obtain ⟨ag, cg, L, xs, hL1, hL2, ⟨g5, g6⟩, hx, hD, hm, hg, hb⟩ := HR2.out
        have r4 := grown_cellP hg C4.out (by omega)
        have f4 : wz.frozen? ⟨w.heap.size + 2, 0, none⟩ = false := frozen_under hg (B := w.heap.size + 3) (fun g h => by cases h; exact Nat.le_refl _) (by omega) (by omega) F4.out
        have OD : OwnD wz W0.heap.size (.slice ag L.length cg) L := ⟨xs, own_lower2 hx hsz, hD⟩
        have HOD := Lib.hid OD; have HMm := Lib.hid hm; have HB := Lib.hid hb
        have hL3 := put_le hL1 (Nat.le_refl k)
        have hL4 := hL2 rfl
        clear hx hD hm hg hb OD hL1
        go_wp2
        refine bodyPost_ret (v := .agg #[.slice ag L.length cg]) (by simp [results, Tryz.results109, go_sem, *]) rfl ⟨_, L, rfl, ?_, HMm.out, by omega, hL4, ?_⟩
        · exact OwnD.lower (HOD.out.kept (grown_set _ _ _ _) (fun g hk => .inl (by cases hk; omega))) (show w.heap.size ≤ W0.heap.size by omega)
        · exact HB.out.grown (grown_set _ _ _ _) HB.out.size (fun k hk => by cases hk; omega)
      · go_upto_region 15 with fail
        obtain ⟨ag, cg, L, xs, hL1, hL2, ⟨g5, g6⟩, hx, hD, hm, hg, hb⟩ := HR.out
        have r4 := grown_cellP hg C4.out (by omega)
        have f4 : wr.frozen? ⟨w.heap.size + 2, 0, none⟩ = false := frozen_under hg (B := w.heap.size + 3) (fun g h => by cases h; exact Nat.le_refl _) (by omega) (by omega) F4.out
        have OD : OwnD wr W0.heap.size (.slice ag L.length cg) L := ⟨xs, own_lower2 hx hsz, hD⟩
        have HOD := Lib.hid OD; have HMm := Lib.hid hm; have HB := Lib.hid hb
        have hL3 := put_le hL1 (Nat.le_refl k)
        have hL4 := hL2 rfl
        clear hx hD hm hg hb OD hL1
        go_wp2
        refine bodyPost_ret (v := .agg #[.slice ag L.length cg]) (by simp [results, Tryz.results109, go_sem, *]) rfl ⟨_, L, rfl, ?_, HMm.out, by omega, hL4, ?_⟩
        · exact OwnD.lower (HOD.out.kept (grown_set _ _ _ _) (fun g hk => .inl (by cases hk; omega))) (show w.heap.size ≤ W0.heap.size by omega)
        · exact HB.out.grown (grown_set _ _ _ _) HB.out.size (fun k hk => by cases hk; omega)

end Go.Proofs.YtdidgaibgkdjoaaGreatDoor
