/-
  CONTRACTS: the segmentation by longest match, of the program and of the reference.
-/
import Derived.Test.YtkbbcmbeafjpaaaGreatDoorPlainSeg
import Derived.Test.YtkbbcmbeafjpaaaGreatDoorPiece
import Derived.Test.YtkbbcmbeafjpaaaGreatDoorWid
namespace Go.Proofs.YtkbbcmbeafjpaaaGreatDoor
open Go.RowKit

theorem pieces_snoc (L : List Pc) (p : Pc) : pieces (L ++ [p]) = pieces L ++ [Value.int .i64 p.1, .int .i64 p.2.1, .string p.2.2] := by
  induction L with
  | nil => rfl
  | cons q r ih => simp only [List.cons_append, pieces, ih]
theorem piece_newsB (w : World) (qa qm : Int) (qt : ByteArray) (E : TypeId) (b : Nat) (hb : b = w.heap.size) : ∀ j u, [Value.int .i64 qa, .int .i64 qm, .string qt][j]? = some u → (w.alloc (.cells #[.int .i64 qa, .int .i64 qm, .string qt] E)).cell? ((⟨b, 0, none⟩ : Addr).add j) = some u := by
  subst hb
  exact piece_news w qa qm qt E
theorem own_grown_cell {w w' : World} {base : Nat} {E : TypeId} {size n b i : Nat} {v u : Value} {xs : List Value} (hg : w.grownBy w' v.ownBlock) (_ho : w.ownsRow base E size v n xs) (h : w.cell? ⟨b, i, none⟩ = some u) (hb : ∀ g, v.ownBlock = some g → g ≠ b) : w'.cell? ⟨b, i, none⟩ = some u :=
  hg.cell h (fun e => hb b e.symm rfl)
/-- pieces laid anew -/
def RetPcs (w : World) (L : List Pc) (y : Bool) (e : Ending) (w' : World) : Prop :=
  ∃ v, e = .returned (.tuple #[v, .bool y]) ∧ w'.ownsRow w.heap.size 127 3 v L.length (pieces L) ∧ Below w.heap.size w w'

set_option maxRecDepth 20000 in
set_option maxHeartbeats 3200000 in
theorem segment_any (v vo : Value) (l : List Ent) (o : List Int) (w : World) (hr : Ents w v l) (hl : l.length ≤ 1048576) (hs : ∀ p ∈ l, p.1.length ≤ 1048576) (ho : Rows w vo o.length 1 (ints o)) (hol : o.length ≤ 1048576) :
    Calls Tryz.prog 91 #[.agg #[v], vo] w (RetRow 127 3 w.heap.size w (segs l o).length (pieces (segs l o))) := by
  have HB0 := Lib.hid (Joins.below_alloc1 w (.cells #[v] 41))
  have HE := Lib.hid (hr.keep HB0.out)
  have HO := Lib.hid (ho.keep HB0.out)
  have HF := Lib.hid hs
  obtain ⟨a, cap, rfl, _, _⟩ := ent_form hr
  obtain ⟨ao, co, rfl, hco, _⟩ := rows_form ho
  clear hr hs ho
  have HC := Lib.hid (show (w.alloc (.cells #[.slice a l.length cap] 41)).cell? ⟨w.heap.size, 0, none⟩ = some (.slice a l.length cap) by simp [go_sem])
  have HM := Lib.hid (fun (b : Nat) W h1 h2 hb => matchAt_any (.slice a l.length cap) (.slice ao o.length co) l o b W h1 hl HF.out h2 hol hb)
  go_enter Tryz.func91, Tryz.ntmps91
  go_upto_region 1 with fail
  obtain ⟨W0, hW0⟩ : ∃ W0, W0 = w.alloc (.cells #[.slice a l.length cap] 41) := ⟨_, rfl⟩
  rw [← hW0] at HB0 HE HC HO ⊢
  have HW := Lib.hid (show w.heap.size ≤ W0.heap.size from HB0.out.size)
  clear hW0
  have HR0 := Lib.hid (World.ownsRow_made (base := W0.heap.size) (e := 127) (size := 3) W0 #[] 0 (Nat.le_refl _) (by unfold maxLen; omega) rfl)
  go_upto_region 3 with fail
  go_loopw [5, 6] (fun out f wr => ∃ (L : List Pc) (b : Nat), b ≤ o.length ∧ f = .int .i64 b ∧ Hid (wr.ownsRow W0.heap.size 127 3 out L.length (pieces L)) ∧ Hid (SegTo l o L b) ∧ Below W0.heap.size W0 wr) (fun _ f _ => o.length - (intOf f).toNat)
  case atStart => exact ⟨[], 0, Nat.zero_le _, rfl, HR0, Lib.hid (seg_start l o), Joins.below_alloc1 _ _⟩
  clear HR0
  case round =>
    obtain ⟨L, b, hb, rfl, HL, HT, hbw⟩ := hrel
    have HB := Lib.hid hbw; clear hbw
    obtain ⟨al, cl, rfl⟩ := row_formD HL.out
    by_cases hlt : b < o.length
    · have hki : (b : Int) < (o.length : Int) := by omega
      obtain ⟨c, hc, hc1, hc2⟩ := matD_told l o b hlt 6
      have HS := Lib.hid (seg_step HT.out hlt (by rw [hc]) hc1 hc2)
      have HLL := Lib.hid HT.out.2
      have q0 := keepcT HB.out HC.out
      have HM1 := Lib.hid (HM.out b wr (HE.out.keep HB.out) (HO.out.keep HB.out) hlt)
      have HQ := Lib.hid hc
      generalize matD l o b 6 = p at HM1 HQ HS hc
      obtain ⟨pf, pc, pt⟩ := p
      cases hc
      clear HT
      have hll : L.length ≤ b := HLL.out
      go_wp2_with (first
        | (at_builtin; have HL2 := HL1; refine app_piece rfl _ _ rfl W0.heap.size _ L.length (pieces L) rfl ((HL2.out.alloc _).alloc _) ⟨_, 0, none⟩ 1 (b : Int) (c : Int) pt rfl (piece_newsB _ _ _ _ _ _ (World.size_alloc _ _).symm) (by omega) (by have := HB1.out.size; simp; omega) ?_; intro v2 w2 hown2 hg2; have pc1 := own_grown_cell hg2 ((HL2.out.alloc (.cells #[.int .i64 (b : Int), .int .i64 (c : Int), .string pt] 127)).alloc (.cells #[.int .i64 (b : Int), .int .i64 (c : Int), .string pt] 127)) (b := w1.heap.size) (i := 1) (u := .int .i64 (c : Int)) (by simp [go_sem]) (fun g hg e => absurd (HL2.out.lt g hg).2 (by omega)))
        | (go_at_call 146; (with_reducible refine HM1.out.mono ?_); rintro e w1 ⟨rfl, hb1⟩; have HL1 := Lib.hid (own_keep HL.out hb1); have HB1 := Lib.hid (HB.out.trans (hb1.mono HB.out.size)); clear hb1))
      go_roundw
      case rel =>
        have h2 : w2.ownsRow W0.heap.size 127 3 v2 (L ++ [((b : Int), (c : Int), pt)]).length (pieces (L ++ [((b : Int), (c : Int), pt)])) := by
          rw [List.length_append, pieces_snoc]; exact hown2
        exact ⟨_, b + c, by omega, by go_num, Lib.hid h2, HS, ((HB1.out.alloc HB1.out.size _).alloc (by have := HB1.out.size; simp; omega) _).grown hg2 (by have := HB1.out.size; simp; omega) (fun j hj => (HL1.out.lt j hj).1)⟩
      case measure => simp [intOf]; omega
    · have E := Lib.hid (seg_done HT.out (by omega))
      go_wp2
      go_ret
      rw [← E.out]
      exact ⟨_, rfl, own_base HL.out HW.out, HB0.out.trans (HB.out.mono HW.out)⟩

def segOut (l : List Ent) (o : List Int) : List Pc := if matOk l o = true then segs l o else []
theorem segOut_len (l : List Ent) (o : List Int) : (segOut l o).length ≤ o.length := by
  unfold segOut
  split
  · exact segs_len l o
  · exact Nat.zero_le _

set_option maxRecDepth 20000 in
set_option maxHeartbeats 1600000 in
theorem Segment_any (v vo : Value) (l : List Ent) (o : List Int) (w : World) (hr : Ents w v l) (hl : l.length ≤ 1048576) (hs : ∀ p ∈ l, p.1.length ≤ 1048576 ∧ p.2.size ≤ 1048576) (ho : Rows w vo o.length 1 (ints o)) (hol : o.length ≤ 1048576) (hm : ∃ m, w.cell? ⟨0, 0, none⟩ = some (.int .i64 m)) :
    Calls Tryz.prog 31 #[.agg #[v], vo] w (RetPcs w (segOut l o) (matOk l o)) := by
  have HB0 := Lib.hid (Joins.below_alloc1 w (.cells #[v] 41))
  have HE := Lib.hid (hr.keep HB0.out)
  have HO := Lib.hid (ho.keep HB0.out)
  have HV := Lib.hid (isMatched_any v vo l o _ HE.out hl hs HO.out hol (max_keepT hm HB0.out))
  have HG := Lib.hid (fun W h1 h2 => segment_any v vo l o W h1 hl (fun p hp => (hs p hp).1) h2 hol)
  have E := Lib.hid (show segOut l o = if matOk l o = true then segs l o else [] from rfl)
  obtain ⟨a, cap, rfl, _, _⟩ := ent_form hr
  obtain ⟨ao, co, rfl, _, _⟩ := rows_form ho
  have HC := Lib.hid (show (w.alloc (.cells #[.slice a l.length cap] 41)).cell? ⟨w.heap.size, 0, none⟩ = some (.slice a l.length cap) by simp [go_sem])
  clear hr hs ho hm
  generalize segOut l o = q at E ⊢
  generalize matOk l o = x at HV E ⊢
  generalize segs l o = L at HG E
  unfold RetRow at HG
  cases x
  · have E1 : q = [] := E.out
    clear E
    subst E1
    go_enter Tryz.func31, Tryz.ntmps31
    go_wp2_with (go_at_call 90; (with_reducible refine HV.out.mono ?_); rintro e w1 ⟨rfl, hb1⟩; have HB1 := Lib.hid (HB0.out.trans (hb1.mono HB0.out.size)); clear hb1)
    go_ret2
    exact ⟨.slice none 0 0, rfl, World.ownsRow_nil _ _ _ _, HB1.out⟩
  · have E1 : q = L := E.out
    clear E
    subst E1
    go_enter Tryz.func31, Tryz.ntmps31
    go_wp2_with (first
      | (go_at_call 91; (with_reducible refine (HG.out _ HE1.out HO1.out).mono ?_); rintro e w2 ⟨v2, rfl, hown, hb2⟩; obtain ⟨a2, c2, rfl⟩ := row_formD hown; have HX := Lib.hid (own_base hown (Nat.le_of_lt HZ1.out)); have HB2 := Lib.hid (HB1.out.trans (hb2.mono HB1.out.size)); clear hown hb2)
      | (go_at_call 90; (with_reducible refine HV.out.mono ?_); rintro e w1 ⟨rfl, hb1⟩; have HZ1 := Lib.hid (show w.heap.size < w1.heap.size from Nat.lt_of_lt_of_le (by rw [World.size_alloc]; exact Nat.lt_succ_self _) hb1.size); have HB1 := Lib.hid (HB0.out.trans (hb1.mono HB0.out.size)); have d1 := keepcT hb1 HC.out; have HE1 := Lib.hid (HE.out.keep hb1); have HO1 := Lib.hid (HO.out.keep hb1); clear hb1))
    go_ret2
    exact ⟨_, rfl, HX.out, HB2.out⟩

/-- the count of the piece laid last -/
theorem own_last {w : World} {base : Nat} {v : Value} {L : List Pc} {p : Pc} (h : w.ownsRow base 127 3 v (L.length + 1) (pieces L ++ [Value.int .i64 p.1, .int .i64 p.2.1, .string p.2.2])) :
    ∃ g c, v = .slice (some ⟨g, 0, none⟩) (L.length + 1) c ∧ w.cell? ⟨g, L.length * 3 + 1, none⟩ = some (.int .i64 p.2.1) := by
  rcases Joins.ownsRow_forms h with ⟨h1, h2⟩ | ⟨g, c, h1⟩
  · omega
  · subst h1
    refine ⟨g, c, rfl, ?_⟩
    rw [h.cellAt (L.length * 3 + 1) (by omega), List.getElem?_append_right (by rw [pieces_length]; omega), pieces_length, show L.length * 3 + 1 - L.length * 3 = 1 by omega]
    rfl

set_option maxRecDepth 20000 in
set_option maxHeartbeats 3200000 in
theorem l11Segment_any (v vo : Value) (l : List Ent) (o : List Int) (w : World) (hr : Ents w v l) (hl : l.length ≤ 1048576) (hs : ∀ p ∈ l, p.1.length ≤ 1048576) (ho : Rows w vo o.length 1 (ints o)) (hol : o.length ≤ 1048576) :
    Calls Tryz.prog 88 #[.agg #[v], vo] w (RetRow 127 3 w.heap.size w (segs l o).length (pieces (segs l o))) := by
  have HB0 := Lib.hid (Joins.below_alloc1 w (.cells #[v] 41))
  have HE := Lib.hid (hr.keep HB0.out)
  have HO := Lib.hid (ho.keep HB0.out)
  have HF := Lib.hid hs
  obtain ⟨a, cap, rfl, _, _⟩ := ent_form hr
  obtain ⟨ao, co, rfl, hco, _⟩ := rows_form ho
  clear hr hs ho
  have HC := Lib.hid (show (w.alloc (.cells #[.slice a l.length cap] 41)).cell? ⟨w.heap.size, 0, none⟩ = some (.slice a l.length cap) by simp [go_sem])
  have HM := Lib.hid (fun (b : Nat) W h1 h2 hb => l11Match_any (.slice a l.length cap) (.slice ao o.length co) l o b W h1 hl HF.out h2 hol hb)
  go_enter Tryz.func88, Tryz.ntmps88
  go_upto_region 1 with fail
  obtain ⟨W0, hW0⟩ : ∃ W0, W0 = w.alloc (.cells #[.slice a l.length cap] 41) := ⟨_, rfl⟩
  rw [← hW0] at HB0 HE HC HO ⊢
  have HW := Lib.hid (show w.heap.size ≤ W0.heap.size from HB0.out.size)
  clear hW0
  have HR0 := Lib.hid (World.ownsRow_made (base := W0.heap.size) (e := 127) (size := 3) W0 #[] 0 (Nat.le_refl _) (by unfold maxLen; omega) rfl)
  go_upto_region 3 with fail
  go_loopw [5, 6] (fun out f wr => ∃ (L : List Pc) (b : Nat), b ≤ o.length ∧ f = .int .i64 b ∧ Hid (wr.ownsRow W0.heap.size 127 3 out L.length (pieces L)) ∧ Hid (SegTo l o L b) ∧ Below W0.heap.size W0 wr) (fun _ f _ => o.length - (intOf f).toNat)
  case atStart => exact ⟨[], 0, Nat.zero_le _, rfl, HR0, Lib.hid (seg_start l o), Joins.below_alloc1 _ _⟩
  clear HR0
  case round =>
    obtain ⟨L, b, hb, rfl, HL, HT, hbw⟩ := hrel
    have HB := Lib.hid hbw; clear hbw
    obtain ⟨al, cl, rfl⟩ := row_formD HL.out
    by_cases hlt : b < o.length
    · have hki : (b : Int) < (o.length : Int) := by omega
      obtain ⟨c, hc, hc1, hc2⟩ := matD_told l o b hlt 6
      have HS := Lib.hid (seg_step HT.out hlt (by rw [hc]) hc1 hc2)
      have HLL := Lib.hid HT.out.2
      have q0 := keepcT HB.out HC.out
      have HM1 := Lib.hid (HM.out b wr (HE.out.keep HB.out) (HO.out.keep HB.out) hlt)
      generalize matD l o b 6 = p at HM1 HS hc
      obtain ⟨pf, pc, pt⟩ := p
      cases hc
      clear HT
      have hll : L.length ≤ b := HLL.out
      have hL0 : (0 : Int) ≤ (L.length : Int) := by omega
      have hL1 : (L.length : Int) < (L.length : Int) + 1 := by omega
      go_wp2_with (first
        | (at_builtin; have HL2 := HL1; refine app_piece rfl _ _ rfl W0.heap.size _ L.length (pieces L) rfl (HL2.out.alloc _) ⟨_, 0, none⟩ 1 (b : Int) (c : Int) pt rfl (piece_news _ _ _ _ _) (by omega) (by have := HB1.out.size; simp; omega) ?_; intro v2 w2 hown2 hg2; obtain ⟨g2, k2, rfl, pc1⟩ := own_last (p := ((b : Int), (c : Int), pt)) hown2)
        | (go_at_call 143; (with_reducible refine HM1.out.mono ?_); rintro e w1 ⟨rfl, hb1⟩; have HL1 := Lib.hid (own_keep HL.out hb1); have HB1 := Lib.hid (HB.out.trans (hb1.mono HB.out.size)); clear hb1))
      go_roundw
      case rel =>
        have h2 : w2.ownsRow W0.heap.size 127 3 (.slice (some ⟨g2, 0, none⟩) (L.length + 1) k2) (L ++ [((b : Int), (c : Int), pt)]).length (pieces (L ++ [((b : Int), (c : Int), pt)])) := by
          rw [List.length_append, pieces_snoc]; exact hown2
        exact ⟨_, b + c, by omega, by go_num, Lib.hid h2, HS, (HB1.out.alloc HB1.out.size _).grown hg2 (by have := HB1.out.size; simp; omega) (fun j hj => (HL1.out.lt j hj).1)⟩
      case measure => simp [intOf]; omega
    · have E := Lib.hid (seg_done HT.out (by omega))
      go_wp2
      go_ret
      rw [← E.out]
      exact ⟨_, rfl, own_base HL.out HW.out, HB0.out.trans (HB.out.mono HW.out)⟩

set_option maxRecDepth 20000 in
set_option maxHeartbeats 1600000 in
theorem specSegment_any (v vo : Value) (l : List Ent) (o : List Int) (w : World) (hr : Ents w v l) (hl : l.length ≤ 1048576) (hs : ∀ p ∈ l, p.1.length ≤ 1048576 ∧ p.2.size ≤ 1048576) (ho : Rows w vo o.length 1 (ints o)) (hol : o.length ≤ 1048576) :
    Calls Tryz.prog 29 #[.agg #[v], vo] w (RetPcs w (segOut l o) (matOk l o)) := by
  have HB0 := Lib.hid (Joins.below_alloc1 w (.cells #[v] 41))
  have HE := Lib.hid (hr.keep HB0.out)
  have HO := Lib.hid (ho.keep HB0.out)
  have HV := Lib.hid (l6Good_any v l _ HE.out hl hs)
  have HS := Lib.hid (fun W h => l11Strokes_any vo o W h hol)
  have HG := Lib.hid (fun W h1 h2 => l11Segment_any v vo l o W h1 hl (fun p hp => (hs p hp).1) h2 hol)
  have E0 := Lib.hid (show matOk l o = (Pl.dictOk l && strokesOk o) from rfl)
  have E := Lib.hid (show segOut l o = if matOk l o = true then segs l o else [] from rfl)
  obtain ⟨a, cap, rfl, _, _⟩ := ent_form hr
  obtain ⟨ao, co, rfl, _, _⟩ := rows_form ho
  have HC := Lib.hid (show (w.alloc (.cells #[.slice a l.length cap] 41)).cell? ⟨w.heap.size, 0, none⟩ = some (.slice a l.length cap) by simp [go_sem])
  clear hr hs ho
  generalize segOut l o = q at E ⊢
  generalize matOk l o = m at E0 E ⊢
  generalize segs l o = L at HG E
  generalize Pl.dictOk l = x at HV E0
  generalize strokesOk o = y at HS E0
  unfold RetRow at HG
  cases x
  · obtain rfl : m = false := E0.out
    obtain rfl : q = [] := E.out
    clear E E0
    go_enter Tryz.func29, Tryz.ntmps29
    go_wp2_with (go_at_call 82; (with_reducible refine HV.out.mono ?_); rintro e w1 ⟨rfl, hb1⟩; have HZ1 := Lib.hid (show w.heap.size < w1.heap.size from Nat.lt_of_lt_of_le (by rw [World.size_alloc]; exact Nat.lt_succ_self _) hb1.size); have HB1 := Lib.hid (HB0.out.trans (hb1.mono HB0.out.size)); clear hb1)
    go_ret2
    exact ⟨_, rfl, World.ownsRow_made (base := w.heap.size) (e := 127) (size := 3) _ #[] 0 (Nat.le_of_lt HZ1.out) (by unfold maxLen; omega) rfl, HB1.out.alloc HB1.out.size _⟩
  · cases y
    · obtain rfl : m = false := E0.out
      obtain rfl : q = [] := E.out
      clear E E0
      go_enter Tryz.func29, Tryz.ntmps29
      go_wp2_with (first
        | (go_at_call 87; (with_reducible refine (HS.out _ HO1.out).mono ?_); rintro e w' ⟨rfl, rfl⟩)
        | (go_at_call 82; (with_reducible refine HV.out.mono ?_); rintro e w1 ⟨rfl, hb1⟩; have HZ1 := Lib.hid (show w.heap.size < w1.heap.size from Nat.lt_of_lt_of_le (by rw [World.size_alloc]; exact Nat.lt_succ_self _) hb1.size); have HO1 := Lib.hid (HO.out.keep hb1); have HB1 := Lib.hid (HB0.out.trans (hb1.mono HB0.out.size)); clear hb1))
      go_ret2
      exact ⟨_, rfl, World.ownsRow_made (base := w.heap.size) (e := 127) (size := 3) _ #[] 0 (Nat.le_of_lt HZ1.out) (by unfold maxLen; omega) rfl, HB1.out.alloc HB1.out.size _⟩
    · obtain rfl : m = true := E0.out
      obtain rfl : q = L := E.out
      clear E E0
      go_enter Tryz.func29, Tryz.ntmps29
      go_wp2_with (first
        | (go_at_call 88; (with_reducible refine (HG.out _ HE1.out HO1.out).mono ?_); rintro e w2 ⟨v2, rfl, hown, hb2⟩; obtain ⟨a2, c2, rfl⟩ := row_formD hown; have HX := Lib.hid (own_base hown (Nat.le_of_lt HZ1.out)); have HB2 := Lib.hid (HB1.out.trans (hb2.mono HB1.out.size)); clear hown hb2)
        | (go_at_call 87; (with_reducible refine (HS.out _ HO1.out).mono ?_); rintro e w' ⟨rfl, rfl⟩)
        | (go_at_call 82; (with_reducible refine HV.out.mono ?_); rintro e w1 ⟨rfl, hb1⟩; have HZ1 := Lib.hid (show w.heap.size < w1.heap.size from Nat.lt_of_lt_of_le (by rw [World.size_alloc]; exact Nat.lt_succ_self _) hb1.size); have HB1 := Lib.hid (HB0.out.trans (hb1.mono HB0.out.size)); have d1 := keepcT hb1 HC.out; have HE1 := Lib.hid (HE.out.keep hb1); have HO1 := Lib.hid (HO.out.keep hb1); clear hb1))
      go_ret2
      exact ⟨_, rfl, HX.out, HB2.out⟩

end Go.Proofs.YtkbbcmbeafjpaaaGreatDoor
