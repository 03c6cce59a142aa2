/-
  CONTRACT: the screen of strokes, by the program: screenOf, ScreenOf.
-/
import Derived.Test.YtdidgaibgkdjoaaGreatDoorFmtW
import Derived.Test.YtdidgaibgkdjoaaGreatDoorPlainScr
import Derived.Test.YtdidgaibgkdjoaaGreatDoorGrE
import Derived.Test.YtdidgaibgkdjoaaGreatDoorBasC
import Derived.Test.YtdidgaibgkdjoaaGreatDoorStRender
namespace Go.Proofs.YtdidgaibgkdjoaaGreatDoor
open Go.RowKit

theorem rows_cellsS {w : World} {a : Option Addr} {n c m size : Nat} {xs : List Value} (h : Rows w (.slice a n c) m size xs) : CellsAt w a xs := by
  obtain ⟨a', c', e, _, _, _, _, h6⟩ := h
  cases e
  exact h6
theorem folds_app (a b : List (Int × ByteArray)) : folds (a ++ b) = folds a ++ folds b := by
  induction a with
  | nil => rfl
  | cons q r ih => simp only [List.cons_append, folds, ih]
theorem folds_one : ∀ (l : List (Int × ByteArray)), ∀ u ∈ folds l, u.oneCell' = true
  | [], u, h => absurd h List.not_mem_nil
  | p :: r, u, h => by
    unfold folds at h
    rcases List.mem_cons.1 h with rfl | h
    · rfl
    · rcases List.mem_cons.1 h with rfl | h
      · rfl
      · exact folds_one r u h
theorem app_atl {ops : Array Oper} {rest : List Oper} {o : Oper} {a : Act} {w : World} {Q : Exit → Act → World → Prop} (hgd : o.guard = none) (s x : Operand)
    (ho : o.op = .call { callee := .builtin .append, args := #[s, x], argTypes := #[127, 127] })
    (base : Nat) (v : Value) (n : Nat) (xs : List Value) (hs : a.eval s = v) (hown : w.ownsRow base 161 2 v n xs)
    (b off m c : Nat) (l : List (Int × ByteArray)) (hx : a.eval x = .slice (some ⟨b, off, none⟩) m c) (hl : l.length = m) (hc : CellsAt w (some ⟨b, off, none⟩) (folds l))
    (hnm : n + m ≤ 4194304) (hbase : base ≤ w.heap.size)
    (h : ∀ v' w', w'.ownsRow base 161 2 v' (n + m) (xs ++ folds l) → w.grownBy w' v.ownBlock → wpList Tryz.prog ops Q rest (a.put o.dst v') w') : wpList Tryz.prog ops Q (o :: rest) a w := by
  obtain ⟨i0, hi, hz0, hz1, hz2⟩ := info_parts Tryz.infoAtm
  exact wpList_append_own w hgd s x 127 ho base 161 i0 (.agg #[.int .i64 0, .string ⟨#[]⟩]) 2 24 Tryz.underlying127 hi hz0 hz1 hz2 rfl (by decide) v n xs hs hown ⟨b, off, none⟩ m c (folds l) hx (by rw [folds_length, hl])
    (fun j u hj => by obtain ⟨b', off', e, h2⟩ := hc j u hj; cases e; rw [Addr.add_lit]; exact h2) (folds_one l)
    (by unfold maxLen; omega) (by omega) hbase (fun v' w' h1 h2 _ => h v' w' h1 h2)
theorem atm_newsS (w : World) (qa : Int) (qt : ByteArray) (E : TypeId) (b : Nat) (hb : b = w.heap.size) : ∀ j x, [Value.int .i64 qa, .string qt][j]? = some x → (w.alloc (.cells #[.int .i64 qa, .string qt] E)).cell? ((⟨b, 0, none⟩ : Addr).add j) = some x := by
  subst hb
  intro j x hj
  rw [Addr.add_lit, Nat.zero_add, World.cell?_alloc_mark]
  simpa using hj
theorem transOut_pos {s : ByteArray} (h : Pl.transOk s = true) : 1 ≤ (Pl.transOut s).length := by
  rw [Pl.out_yes h, List.length_map]
  exact (Pl.parts_len 32 s).1
theorem replace_any (n : Nat) (w : World) (hm : ∃ m, w.cell? ⟨0, 0, none⟩ = some (.int .i64 m)) : Calls Tryz.prog 132 #[.string (Pl.fmtB n), .string ⟨#[35]⟩, .string ⟨#[61]⟩] w fun e w' => e = .returned (.string (Pl.rawB n)) ∧ Below w.heap.size w w' := by
  obtain ⟨m, hm⟩ := hm
  have hz := Pl.fmtB_len n
  have hc : Lib.countB (Pl.fmtB n) ⟨#[35]⟩ ≤ (Pl.fmtB n).data.toList.length + 1 := Lib.count_le _ _
  have hl : (Pl.fmtB n).data.toList.length = (Pl.fmtB n).size := Array.length_toList
  have h := Tryz.strings_ReplaceAll (Pl.fmtB n) ⟨#[35]⟩ ⟨#[61]⟩ m w (by omega) hm (by decide) (by show _ + _ * 1 ≤ _; omega)
  rw [show (⟨(Lib.replaceAll (Pl.fmtB n).data.toList (⟨#[35]⟩ : ByteArray).data.toList (⟨#[61]⟩ : ByteArray).data.toList).toArray⟩ : ByteArray) = Pl.rawB n from Pl.raw_replace n] at h
  exact h

set_option maxRecDepth 20000 in
set_option maxHeartbeats 3200000 in
theorem screenOf_any (vo vp : Value) (o : List Int) (P : List Pc) (w : World) (ho : Rows w vo o.length 1 (ints o)) (hp : Rows w vp P.length 3 (pieces P)) (hP : P.length ≤ 1000) (hok : ∀ p ∈ P, PcOk o p) (hst : o.all Pl.strokeB = true) (hm : ∃ m, w.cell? ⟨0, 0, none⟩ = some (.int .i64 m)) :
    Calls Tryz.prog 83 #[vo, vp] w fun e w' => e = .returned (.tuple #[.string (Pl.renderOut (pcsAtoms o P)), .bool (Pl.renderOk (pcsAtoms o P))]) ∧ Below w.heap.size w w' := by
  obtain ⟨ap, cp, rfl, _, _⟩ := rows_form hp
  obtain ⟨ao, co, rfl, _, _⟩ := rows_form ho
  have HR0 := Lib.hid (World.ownsRow_made (base := w.heap.size) (e := 161) (size := 2) w #[] 0 (Nat.le_refl _) (by unfold maxLen; omega) rfl)
  have HO := Lib.hid ho; have HP := Lib.hid hp; have HM := Lib.hid hm; have HK := Lib.hid hok
  have HST := Lib.hid (fun (i : Nat) (hi : i < o.length) => stroke_bd hst hi)
  clear ho hp hm hok hst
  go_enter Tryz.func83, Tryz.ntmps83
  go_upto_region 3 with fail
  go_loopw [6, 16] (fun out i wr => ∃ k : Nat, k ≤ P.length ∧ i = .int .i64 k ∧ Hid (wr.ownsRow w.heap.size 161 2 out (pcsAtoms o (P.take k)).length (folds (pcsAtoms o (P.take k)))) ∧ Below w.heap.size w wr) (fun _ i _ => P.length - (intOf i).toNat)
  case atStart => exact ⟨0, Nat.zero_le _, rfl, Lib.hid (by rw [List.take_zero]; exact HR0.out), Joins.below_alloc1 _ _⟩
  clear HR0
  case round =>
    obtain ⟨k, hk, rfl, HA, hb⟩ := hrel
    have HB := Lib.hid hb; clear hb
    obtain ⟨aa, ca, rfl⟩ := row_formK HA.out
    have hlen := pcsAtoms_len o (P.take k)
    have hlk : (P.take k).length ≤ k := by rw [List.length_take]; omega
    by_cases hlt : k < P.length
    · obtain ⟨a9, c9, e9, _, _, _, _, hcells⟩ := HP.out.keep HB.out
      cases e9
      obtain ⟨b, off, rfl, c1, c2, c3⟩ := piece_cells hcells k hlt
      have hki : (k : Int) < (P.length : Int) := by omega
      have hk0 : (0 : Int) ≤ (k : Int) := by omega
      have HN := Lib.hid (pcs_next (o := o) hlt rfl)
      have hpk := HK.out _ (List.getElem_mem hlt)
      generalize pcsAtoms o (P.take k) = A at HA HN hlen
      generalize P[k] = p at c1 c2 c3 HN hpk
      obtain ⟨pf, pc, pt⟩ := p
      dsimp only at c1 c2 c3 hpk
      obtain ⟨i, hi, hio, htx⟩ := hpk
      dsimp only at hi htx
      subst hi
      clear hcells
      have hib : (0 : Int) ≤ (i : Int) := by omega
      have hio2 : (i : Int) < (o.length : Int) := by omega
      have HBa := Lib.hid (Joins.below_alloc1 wr (.cells #[.int .i64 (i : Int), .int .i64 pc, .string pt] 166))
      have HB1 := Lib.hid (HB.out.trans (HBa.out.mono HB.out.size))
      have e0 : (wr.alloc (.cells #[.int .i64 (i : Int), .int .i64 pc, .string pt] 166)).cell? ⟨wr.heap.size, 0, none⟩ = some (.int .i64 (i : Int)) := by simp [go_sem]
      have e2 : (wr.alloc (.cells #[.int .i64 (i : Int), .int .i64 pc, .string pt] 166)).cell? ⟨wr.heap.size, 2, none⟩ = some (.string pt) := by simp [go_sem]
      have HA1 := Lib.hid (own_keep HA.out HBa.out)
      by_cases hy : pt.toList.isEmpty = true
      · obtain ⟨n, hn0, hn1, hn2, hn3⟩ := HST.out i hio
        have E := Lib.hid (show pcsAtoms o (P.take (k + 1)) = A ++ [(1, Pl.rawB n)] by rw [HN.out, pc_raw hy, show (o.getD ((i : Int)).toNat 0).toNat = n by rw [Int.toNat_natCast, hn1]; rfl])
        obtain ⟨a8, c8, e8, hle8, _, _, _, hoc⟩ := HO.out.keep HB1.out
        cases e8
        obtain ⟨bo, oo, rfl, d1⟩ := hoc i _ (ints_at o i hio)
        rw [hn0] at d1
        have HFm := Lib.hid (fun W => FormatStroke_any n W hn2 hn3)
        clear hoc HN htx
        go_wp2_with (first
          | (at_builtin; have hx := HA4; refine app_atm rfl _ _ rfl w.heap.size _ A.length (folds A) rfl (HA4.out.alloc _) ⟨_, 0, none⟩ 1 1 (Pl.rawB n) rfl (atm_newsS _ _ _ _ _ rfl) (by omega) (by rw [World.size_alloc]; have := HB4.out.size; omega) ?_; intro v5 w5 hown5 hg5)
          | (go_at_call 132; have hx := HA3; (with_reducible refine (replace_any n _ (max_keepT HM.out HB3.out)).mono ?_); rintro e w4 ⟨rfl, hb4⟩; have HA4 := Lib.hid (own_keep HA3.out hb4); have HB4 := Lib.hid (HB3.out.trans (hb4.mono HB3.out.size)); clear hb4 hx HA3)
          | (go_at_call 131; (with_reducible refine (HFm.out _).mono ?_); rintro e w3 ⟨rfl, hb3⟩; have HA3 := Lib.hid (own_keep HA1.out hb3); have HB3 := Lib.hid (HB1.out.trans (hb3.mono HB1.out.size)); clear hb3))
        go_roundw
        case rel => exact ⟨k + 1, by omega, by go_num, Lib.hid (by rw [E.out, List.length_append, folds_app]; exact hown5), (HB4.out.alloc HB4.out.size _).grown hg5 (by rw [World.size_alloc]; exact Nat.le_succ_of_le HB4.out.size) (fun j hj => (HA4.out.lt j hj).1)⟩
        case measure => simp [intOf]; omega
      · have hy' : pt.toList.isEmpty = false := by simpa using hy
        have htr : Pl.transOk pt = true := by
          rcases htx with h | h
          · rw [h] at hy; exact absurd (by rw [Pl.ba_toList]; rfl) hy
          · exact h
        have hsz : pt.size ≤ 60 := by
          unfold Pl.transOk at htr
          simp only [Bool.and_eq_true, decide_eq_true_iff] at htr
          exact htr.1.1
        have E := Lib.hid (show pcsAtoms o (P.take (k + 1)) = A ++ Pl.transOut pt by rw [HN.out, pc_text hy'])
        have hpos := transOut_pos htr
        have htl := transOut_len (s := pt)
        have HPT := Lib.hid (fun W h => ParseTranslation_any pt W (by omega) h)
        unfold Read1 at HPT
        rw [htr] at HPT
        clear HN htx hy htr
        generalize Pl.transOut pt = X at HPT E hpos htl
        go_wp2_with (first
          | (at_builtin; have hx := HA3; refine app_atl rfl _ _ rfl w.heap.size _ A.length (folds A) rfl HA3.out la 0 X.length lc X rfl rfl (rows_cellsS HX3.out) (by omega) HB3.out.size ?_; intro v5 w5 hown5 hg5)
          | (go_at_call 122; (with_reducible refine (HPT.out _ (max_keepT HM.out HB1.out)).mono ?_); rintro e w3 ⟨lv, rfl, hown3, hb3⟩; obtain ⟨la, lc, rfl⟩ := Joins.ownsRow_form hown3 hpos; have HX3 := Lib.hid (Rows.of_own hown3); have HA3 := Lib.hid (own_keep HA1.out hb3); have HB3 := Lib.hid (HB1.out.trans (hb3.mono HB1.out.size)); clear hb3 hown3))
        go_roundw
        case rel => exact ⟨k + 1, by omega, by go_num, Lib.hid (by rw [E.out, List.length_append, folds_app]; exact hown5), HB3.out.grown hg5 HB3.out.size (fun j hj => (HA3.out.lt j hj).1)⟩
        case measure => simp [intOf]; omega
    · obtain rfl : k = P.length := by omega
      rw [List.take_length] at HA
      have HRd := Lib.hid (fun W h => Render_any (.slice aa (pcsAtoms o P).length ca) (pcsAtoms o P) W h (fun q hq => Nat.le_trans (pcsAtoms_sz o P q hq) (by unfold maxLen; omega)))
      go_wp2_with (go_at_call 133; (with_reducible refine (HRd.out _ (Rows.of_own HA.out)).mono ?_); rintro e w2 ⟨rfl, hb2⟩)
      go_ret2
      exact ⟨rfl, HB.out.trans (hb2.mono HB.out.size)⟩

set_option maxRecDepth 20000 in
set_option maxHeartbeats 1600000 in
theorem ScreenOf_any (v vo : Value) (l : List Ent) (o : List Int) (w : World) (hr : Ents w v l) (hl : l.length ≤ 1048576) (hs : ∀ p ∈ l, p.1.length ≤ 1048576 ∧ p.2.size ≤ 1048576) (ho : Rows w vo o.length 1 (ints o)) (hol : o.length ≤ 1048576) (hm : ∃ m, w.cell? ⟨0, 0, none⟩ = some (.int .i64 m)) :
    Calls Tryz.prog 35 #[.agg #[v], vo] w fun e w' => e = .returned (.tuple #[.string (scOut l o), .bool (scOk l o)]) ∧ Below w.heap.size w w' := by
  have HB0 := Lib.hid (Joins.below_alloc1 w (.cells #[v] 26))
  have HE := Lib.hid (hr.keep HB0.out)
  have HO := Lib.hid (ho.keep HB0.out)
  have HM := Lib.hid (max_keepT hm HB0.out)
  have HV := Lib.hid (isMatched_any v vo l o _ HE.out hl hs HO.out hol HM.out)
  have HG := Lib.hid (fun W h1 h2 => segment_any v vo l o W h1 hl (fun p hp => (hs p hp).1) h2 hol)
  obtain ⟨a, cap, rfl, _, _⟩ := ent_form hr
  obtain ⟨ao, co, rfl, _, _⟩ := rows_form ho
  have HC := Lib.hid (show (w.alloc (.cells #[.slice a l.length cap] 26)).cell? ⟨w.heap.size, 0, none⟩ = some (.slice a l.length cap) by simp [go_sem])
  clear hr hs ho hm
  cases hx : matOk l o
  · rw [hx] at HV
    obtain ⟨E1, E2⟩ := scr_no hx
    rw [E1, E2]
    clear E1 E2 hx HG
    go_enter Tryz.func35, Tryz.ntmps35
    go_wp2_with (go_at_call 82; (with_reducible refine HV.out.mono ?_); rintro e w1 ⟨rfl, hb1⟩; have HB1 := Lib.hid (HB0.out.trans (hb1.mono HB0.out.size)); clear hb1)
    go_ret2
    exact ⟨rfl, HB1.out⟩
  · rw [hx] at HV
    obtain ⟨E1, E2⟩ := scr_yes hx
    obtain ⟨t1, t2, t3⟩ := matOk_told hx
    have hsl := segs_len l o
    have hok := segs_ok (l := l) (o := o) t1
    have HS := Lib.hid (fun vp W h1 h2 h3 => screenOf_any (.slice ao o.length co) vp o (segs l o) W h1 h2 (by omega) hok t3 h3)
    rw [E1, E2]
    unfold scAtoms
    unfold RetRow at HG
    clear E1 E2 hx hok t1 t3
    generalize Pl.renderOut (pcsAtoms o (segs l o)) = ro at HS ⊢
    generalize Pl.renderOk (pcsAtoms o (segs l o)) = rk at HS ⊢
    generalize segs l o = P at HG HS hsl
    go_enter Tryz.func35, Tryz.ntmps35
    go_wp2_with (first
      | (go_at_call 83; have hx := HP2; (with_reducible refine (HS.out _ _ (HO.out.keep HB2.out) HP2.out (max_keepT HM.out HB2.out)).mono ?_); rintro e w3 ⟨rfl, hb3⟩; have HB3 := Lib.hid (HB2.out.trans (hb3.mono HB2.out.size)); clear hb3)
      | (go_at_call 84; have hx := d1; (with_reducible refine (HG.out _ (HE.out.keep HBq.out) (HO.out.keep HBq.out)).mono ?_); rintro e w2 ⟨v2, rfl, hown, hb2⟩; have HP2 := Lib.hid (Rows.of_own hown); have HB2 := Lib.hid (HBq.out.trans (hb2.mono HBq.out.size)); clear hb2 hown)
      | (go_at_call 82; (with_reducible refine HV.out.mono ?_); rintro e w1 ⟨rfl, hb1⟩; have HBq := Lib.hid hb1; have d1 := keepcT hb1 HC.out; clear hb1))
    go_ret2
    exact ⟨rfl, HB0.out.trans (HB3.out.mono HB0.out.size)⟩

end Go.Proofs.YtdidgaibgkdjoaaGreatDoor
