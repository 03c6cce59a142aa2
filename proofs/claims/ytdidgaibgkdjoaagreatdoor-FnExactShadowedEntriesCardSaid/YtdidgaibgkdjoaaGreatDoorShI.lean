/-
  CONTRACT: the entries of a stack that others hide, of the program.
-/
import Derived.Test.YtdidgaibgkdjoaaGreatDoorShM
import Derived.Test.YtdidgaibgkdjoaaGreatDoorGrC
import Derived.Test.YtdidgaibgkdjoaaGreatDoorBasB
namespace Go.Proofs.YtdidgaibgkdjoaaGreatDoor
open Go.RowKit

theorem rows_cellsH {w : World} {b off n cap : Nat} {xs : List Value} (h : Rows w (.slice (some ⟨b, off, none⟩) n cap) n 1 xs) : CellsAt w (some ⟨b, off, none⟩) xs ∧ n ≤ cap := by
  obtain ⟨a, c, e, h2, _, _, _, h6⟩ := h
  cases e
  exact ⟨h6, h2⟩
theorem ent_outlineH {l : List Ent} (h : Pl.dictOk l = true) {k : Nat} (hk : k < l.length) : Pl.outlineB (l[k]).1 = true := by
  have := Pl.dict_ent h hk
  unfold Pl.entOk at this
  rw [Bool.and_eq_true] at this
  exact this.1
/-- a block of another element type is no such row -/
theorem own_ne_type {w : World} {b s n g : Nat} {E T : TypeId} {v : Value} {xs : List Value} {ca : Array Value} {f : Nat × Nat} (h : w.ownsRow b E s v n xs) (hh : w.heap[g]? = some (.cells ca T f)) (hT : T ≠ E) : v.ownBlock ≠ some g := by
  rcases h.2 with ⟨rfl, _⟩ | ⟨g1, c1, u1, rfl, _, k1, _⟩
  · simp [Value.ownBlock]
  · simp only [Value.ownBlock, ne_eq, Option.some.injEq]
    intro e
    subst e
    rw [k1] at hh
    cases hh
    exact hT rfl
theorem cell_of_two {w : World} {g : Nat} {x y : Value} {T : TypeId} (h : w.heap[g]? = some (.cells #[x, y] T)) : w.cell? ⟨g, 1, none⟩ = some y := by
  unfold World.cell?
  simp [h]
theorem outs_snoc (L : List Sh) (p : Sh) : outs (L ++ [p]) = outs L ++ [p.2.2] := by simp [outs]
theorem sh_bound {S : List Lay} (h : stackOk S = true) {k : Nat} (hk : k < S.length) {pl : List Ent} {py : Bool} (hp : S[k] = (pl, py)) (m : Nat) : (shTo S k ++ shIn S k py (pl.take m)).length ≤ 300 := by
  obtain ⟨h4, h5⟩ := stack_told h
  have h6 := shTo_len (m := 40) (fun q hq => Pl.dict_len (h5 q hq)) k
  have h7 := shIn_len S k py (pl.take m)
  have h8 : pl.length ≤ 40 := by
    have := Pl.dict_len (h5 _ (List.getElem_mem hk))
    rw [hp] at this
    exact this
  rw [List.length_append]
  rw [List.length_take] at h7
  omega
theorem sh_done {S : List Lay} {k : Nat} (hk : k < S.length) {pl : List Ent} {py : Bool} (hp : S[k] = (pl, py)) : shTo S k ++ shIn S k py (pl.take pl.length) = shTo S (k + 1) := by
  rw [shIn_all, shTo_next hk hp]
theorem sh_step {S : List Lay} {k m : Nat} {pl : List Ent} {py : Bool} (hm : m < pl.length) : shTo S k ++ shIn S k py (pl.take (m + 1)) = (shTo S k ++ shIn S k py (pl.take m)) ++ shOne S k py (pl[m]).1 := by
  rw [shIn_next hm, List.append_assoc]

set_option maxRecDepth 20000 in
set_option maxHeartbeats 6400000 in
theorem ShadowedEntries_any (v : Value) (S : List Lay) (w : World) (hr : Lays w v S) (hl : S.length ≤ 1048576) (hs : ∀ q ∈ S, LayFit q) (hm : ∃ m, w.cell? ⟨0, 0, none⟩ = some (.int .i64 m)) :
    Calls Tryz.prog 19 #[.agg #[v]] w (RetSh w (shOut S) (stackOk S)) := by
  have HB0 := Lib.hid (Joins.below_alloc1 w (.cells #[v] 49))
  have HE := Lib.hid (hr.keep HB0.out)
  have HV := Lib.hid (IsValidStack_any v S _ HE.out hl hs (max_keepT hm HB0.out))
  have HF := Lib.hid hs
  obtain ⟨a, cap, rfl, _, _⟩ := lay_form hr
  have HC := Lib.hid (show (w.alloc (.cells #[.slice a S.length cap] 49)).cell? ⟨w.heap.size, 0, none⟩ = some (.slice a S.length cap) by simp [go_sem])
  have E := Lib.hid (show shOut S = if stackOk S = true then shTo S S.length else [] from rfl)
  clear hr hs hm
  cases hx : stackOk S
  · rw [hx] at HV E
    have E1 : shOut S = [] := E.out
    rw [E1]
    clear E E1 hx
    go_enter Tryz.func19, Tryz.ntmps19
    go_wp2_with (go_at_call 57; (with_reducible refine HV.out.mono ?_); rintro e w1 ⟨rfl, hb1⟩; have HB1 := Lib.hid (HB0.out.trans (hb1.mono HB0.out.size)); clear hb1)
    go_ret2
    exact ⟨_, rfl, OwnSh.nil _ _, HB1.out⟩
  rw [hx] at HV E
  have E1 : shOut S = shTo S S.length := E.out
  have HDK := Lib.hid (stack_told hx).2
  have HLB := Lib.hid (fun k (hk : k < S.length) pl py (hp : S[k] = (pl, py)) m => sh_bound hx hk hp m)
  rw [E1]
  clear E E1 hx
  go_enter Tryz.func19, Tryz.ntmps19
  go_upto_region 3 with (go_at_call 57; (with_reducible refine HV.out.mono ?_); rintro e W0 ⟨rfl, hb1⟩; have HB2 := Lib.hid (HB0.out.trans (hb1.mono HB0.out.size)); have HE2 := Lib.hid (HE.out.keep hb1); have HC2 := Lib.hid (keepcT hb1 HC.out); clear hb1)
  clear HB0 HE HC HV
  have HW := Lib.hid (show w.heap.size ≤ W0.heap.size from HB2.out.size)
  have HR0 := Lib.hid (World.ownsRow_made (base := W0.heap.size) (e := 99) (size := 3) W0 #[] 0 (Nat.le_refl _) (by unfold maxLen; omega) rfl)
  have hc2 := HC2.out
  have hD1 : w.heap.size < W0.heap.size := World.block_lt_of_cell? _ _ hc2
  have hD2 : ¬ w.heap.size = W0.heap.size := by omega
  have hD3 : ¬ W0.heap.size = w.heap.size := by omega
  go_upto_region 5 with fail
  go_loopw [4, 19] (fun out i wr => ∃ (k : Nat) (xs : List Value) (U : Nat → Value), k ≤ S.length ∧ i = .int .i64 k ∧ Hid (wr.ownsRow W0.heap.size 99 3 out (shTo S k).length xs) ∧ Hid (Inner wr W0.heap.size wr.heap.size xs 3 2 (outs (shTo S k)) U) ∧ Hid (ShCells xs (shTo S k)) ∧ Below W0.heap.size W0 wr) (fun _ i _ => S.length - (intOf i).toNat)
  case atStart => exact ⟨0, [], _, Nat.zero_le _, rfl, HR0, Lib.hid (Inner.nil _ _ _ _ _), Lib.hid (fun j hj => absurd hj (Nat.not_lt_zero j)), Joins.below_alloc1 _ _⟩
  clear HR0 hc2 hD1 hD2 hD3
  case round =>
    obtain ⟨k, xs, U, hk, rfl, HO, HI, HS, hb⟩ := hrel
    have HB := Lib.hid hb; clear hb
    obtain ⟨al, cl, rfl⟩ := row_formD HO.out
    by_cases hlt : k < S.length
    · obtain ⟨b, off, u, rfl, c1, c2, c3⟩ := lay_at HE2.out k hlt
      have hki : (k : Int) < (S.length : Int) := by omega
      have hk0 : (0 : Int) ≤ (k : Int) := by omega
      have hf := HF.out _ (List.getElem_mem hlt)
      have hdk := HDK.out _ (List.getElem_mem hlt)
      generalize hpk : S[k] = p at c1 c2 c3 hf hdk
      obtain ⟨pl, py⟩ := p
      dsimp only at c1 c2 c3 hf hdk
      have HB3 := Lib.hid (HLB.out k hlt pl py hpk)
      have HFIN := Lib.hid (sh_done hlt hpk)
      have HOK := Lib.hid (fun m (hm : m < pl.length) => ent_outlineH hdk hm)
      have HP1 := Lib.hid hf.2
      have hpll := hf.1
      obtain ⟨au, cu, rfl, _, _⟩ := ent_form c3
      have HEp := Lib.hid c3
      have HO0 := Lib.hid (show wr.ownsRow W0.heap.size 99 3 (.slice al (shTo S k).length cl) (shTo S k ++ shIn S k py (pl.take 0)).length xs by rw [shIn_zero, List.append_nil]; exact HO.out)
      have HI0 := Lib.hid (show Inner wr W0.heap.size wr.heap.size xs 3 2 (outs (shTo S k ++ shIn S k py (pl.take 0))) U by rw [shIn_zero, List.append_nil]; exact HI.out)
      have HS0 := Lib.hid (show ShCells xs (shTo S k ++ shIn S k py (pl.take 0)) by rw [shIn_zero, List.append_nil]; exact HS.out)
      replace c1 := keepcT HB.out c1
      replace c2 := keepcT HB.out c2
      have HBa := Lib.hid (Joins.below_alloc1 wr (.cells #[.slice au pl.length cu, .bool py] 96))
      have hH1 : (wr.alloc (.cells #[.slice au pl.length cu, .bool py] 96)).heap[wr.heap.size]? = some (.cells #[.slice au pl.length cu, .bool py] 96) := heap_alloc_new _ _
      have HH1 := Lib.hid hH1
      clear HO HI HS hpk hf hdk c3 hH1
      go_upto_region 8 with fail
      obtain ⟨W1, hW1⟩ : ∃ W1, W1 = wr.alloc (.cells #[.slice au pl.length cu, .bool py] 96) := ⟨_, rfl⟩
      rw [← hW1] at HBa HH1 ⊢
      clear hW1
      have HB1 := Lib.hid (HB.out.trans (HBa.out.mono HB.out.size))
      have HO1 := Lib.hid (own_keep HO0.out HBa.out)
      have HI1 := Lib.hid ((HI0.out.keep HBa.out).wider HBa.out.size)
      generalize wr.heap.size = bl at HH1 ⊢
      clear HO0 HI0 HBa HB c1 c2
      go_loopw [4, 28] (fun out i w2 => ∃ (m : Nat) (xs : List Value) (U : Nat → Value), m ≤ pl.length ∧ i = .int .i64 m ∧ Hid (w2.ownsRow W0.heap.size 99 3 out (shTo S k ++ shIn S k py (pl.take m)).length xs) ∧ Hid (Inner w2 W0.heap.size w2.heap.size xs 3 2 (outs (shTo S k ++ shIn S k py (pl.take m))) U) ∧ Hid (ShCells xs (shTo S k ++ shIn S k py (pl.take m))) ∧ Hid (w2.heap[bl]? = some (.cells #[.slice au pl.length cu, .bool py] 96)) ∧ Below W0.heap.size W0 w2) (fun _ i _ => pl.length - (intOf i).toNat)
      case atStart => exact ⟨0, xs, U, Nat.zero_le _, rfl, HO1, HI1, HS0, HH1, HB1.out⟩
      clear HO1 HI1 HS0 HH1 HB1
      case round =>
        obtain ⟨m, xs, U, hm, rfl, HO, HI, HS, HH, hb⟩ := hrel
        have HB := Lib.hid hb; clear hb
        obtain ⟨al2, cl2, rfl⟩ := row_formD HO.out
        have hbd := HB3.out m
        by_cases hmt : m < pl.length
        · obtain ⟨b2, off2, u2, rfl, d1, d2, d3⟩ := ent_at (HEp.out.keep HB.out) m hmt
          have hmi : (m : Int) < (pl.length : Int) := by omega
          have hm0 : (0 : Int) ≤ (m : Int) := by omega
          have hok := HOK.out m hmt
          have hql := HP1.out _ (List.getElem_mem hmt)
          have HST := Lib.hid (sh_step (S := S) (k := k) (py := py) hmt)
          generalize pl[m] = q at d1 d2 d3 hok hql HST
          obtain ⟨ql, qt⟩ := q
          dsimp only at d1 d2 d3 hok hql HST
          replace hql := hql.1
          have z1 := (Pl.outline_len hok).1
          obtain ⟨au2, cu2, rfl, _, _⟩ := rows_form d3
          obtain ⟨bu, ou, rfl⟩ : ∃ bu ou, au2 = some ⟨bu, ou, none⟩ := by
            obtain ⟨a1, c1', h1, _, _, _, _, h6⟩ := d3
            cases h1
            obtain ⟨b1, o1, e1, _⟩ := h6 _ _ (ints_at ql 0 (by omega))
            exact ⟨b1, o1, e1⟩
          generalize shTo S k ++ shIn S k py (pl.take m) = L at HO HI HS HST hbd
          have HXL := Lib.hid (show xs.length = (outs L).length * 3 by rw [outs_len]; exact HO.out.1)
          have HXL2 := Lib.hid (show xs.length = L.length * 3 from HO.out.1)
          have g1 := cell_of_two HH.out
          have hlb : bl < wr.heap.size := World.block_lt_of_cell? _ _ g1
          have q0 := keepcT HB.out HC2.out
          have hD1 : w.heap.size < wr.heap.size := World.block_lt_of_cell? _ _ q0
          have hD2 : ¬ w.heap.size = wr.heap.size := by omega
          have hD3 : ¬ wr.heap.size = w.heap.size := by omega
          have hE2 : ¬ bl = wr.heap.size := by omega
          have hE3 : ¬ wr.heap.size = bl := by omega
          have HBa := Lib.hid (Joins.below_alloc1 wr (.cells #[.slice (some ⟨bu, ou, none⟩) ql.length cu2, .string qt] 39))
          have HB1 := Lib.hid (HB.out.trans (HBa.out.mono HB.out.size))
          have HR1 := Lib.hid (d3.keep HBa.out)
          have HE1 := Lib.hid (HE2.out.keep HB1.out)
          have e0 : (wr.alloc (.cells #[.slice (some ⟨bu, ou, none⟩) ql.length cu2, .string qt] 39)).cell? ⟨wr.heap.size, 0, none⟩ = some (.slice (some ⟨bu, ou, none⟩) ql.length cu2) := by simp [go_sem]
          have HLK := Lib.hid (fun W h1 h2 => lookupS_any (.slice (some ⟨b, off, none⟩) S.length cap) (.slice (some ⟨bu, ou, none⟩) ql.length cu2) S ql W h1 hl HF.out h2)
          have HY := Lib.hid (fun h : (stFrom ql 0 S).2.1 < (k : Int) => shOne_yes h)
          have HN := Lib.hid (fun h : ¬ (stFrom ql 0 S).2.1 < (k : Int) => shOne_no (y := true) h)
          generalize stFrom ql 0 S = r at HLK HY HN
          obtain ⟨rt, ri, ry⟩ := r
          dsimp only at HLK HY HN
          clear d3 hok
          cases py
          · have E := Lib.hid (show shTo S k ++ shIn S k false (pl.take (m + 1)) = L by rw [HST.out, shOne_off, List.append_nil])
            clear HST HY HN
            go_wp2_with (go_at_call 58; (with_reducible refine (HLK.out _ HE1.out HR1.out).mono ?_); rintro e w4 ⟨rfl, hb4⟩; have k1 := keepcT hb4 (keepcT HBa.out g1); have HB4 := Lib.hid (HB1.out.trans (hb4.mono HB1.out.size)); have HO4 := Lib.hid (own_keep (own_keep HO.out HBa.out) hb4); have HI4 := Lib.hid (((HI.out.keep HBa.out).keep hb4).wider (Nat.le_trans HBa.out.size hb4.size)); have HH4 := Lib.hid ((hb4.block bl (by rw [World.size_alloc]; exact Nat.lt_succ_of_lt hlb)).trans ((HBa.out.block bl hlb).trans HH.out)); clear hb4)
            go_roundw
            case rel => exact ⟨m + 1, xs, U, by omega, by go_num, by rw [E.out]; exact HO4, by rw [E.out]; exact HI4, by rw [E.out]; exact HS, HH4, HB4.out⟩
            case measure => simp [intOf]; omega
          · by_cases hri : ri < (k : Int)
            · have E := Lib.hid (show shTo S k ++ shIn S k true (pl.take (m + 1)) = L ++ [((k : Int), ri, ql)] by rw [HST.out, HY.out hri])
              clear HST HY HN
              go_wp2_with (first
                | (at_builtin; have HO6 := HO5; refine app_sh rfl _ _ rfl W0.heap.size _ L.length xs rfl (HO6.out.alloc _) ⟨_, 0, none⟩ 1 (k : Int) ri a5 ql.length k5 rfl (sh_news _ _ _ _ _ _ rfl) (by omega) (by rw [World.size_alloc]; have := HB5.out.size; omega) ?_; intro v6 w6 hown6 hg6)
                | (go_at_call 48; (with_reducible refine (copyOf_any bu ou _ cu2 ql _ rfl (rows_cellsH HR4.out).1 hql).mono ?_); rintro e w5 ⟨v5, rfl, hown5, hb5⟩; have HU5 := Lib.hid hown5; have HZ5 := Lib.hid hb5.size; obtain ⟨a5, k5, rfl⟩ := row_formD hown5; have HO5 := Lib.hid (own_keep HO4.out hb5); have HI5 := Lib.hid (HI4.out.keep hb5); have HB5 := Lib.hid (HB4.out.trans (hb5.mono HB4.out.size)); have HH5 := Lib.hid ((hb5.block bl (World.block_lt_of_cell? _ _ k1)).trans HH4.out); have HL5 := Lib.hid (World.block_lt_of_cell? _ _ (keepcT hb5 k1)); clear hown5 hb5)
                | (go_at_call 58; (with_reducible refine (HLK.out _ HE1.out HR1.out).mono ?_); rintro e w4 ⟨rfl, hb4⟩; have k1 := keepcT hb4 (keepcT HBa.out g1); have k2 := keepcT hb4 e0; have HR4 := Lib.hid (HR1.out.keep hb4); have HB4 := Lib.hid (HB1.out.trans (hb4.mono HB1.out.size)); have HO4 := Lib.hid (own_keep (own_keep HO.out HBa.out) hb4); have HI4 := Lib.hid (((HI.out.keep HBa.out).keep hb4).wider (Nat.le_trans HBa.out.size hb4.size)); have HH4 := Lib.hid ((hb4.block bl (by rw [World.size_alloc]; exact Nat.lt_succ_of_lt hlb)).trans ((HBa.out.block bl hlb).trans HH.out)); clear hb4))
              go_roundw
              case rel =>
                have hI4 := HI5.out.snoc (hi' := w5.heap.size) HXL.out (ys := [.int .i64 (k : Int), .int .i64 ri, .slice a5 ql.length k5]) rfl HU5.out HB4.out.size (fun g hg => (HU5.out.lt g hg).2) HZ5.out
                have hA := Joins.below_alloc1 w5 (.cells #[.int .i64 (k : Int), .int .i64 ri, .slice a5 ql.length k5] 99)
                have hI5 := ((hI4.keep hA).grown hg6 ((hI4.keep hA).apart (HO5.out.alloc _) (by decide))).wider (Nat.le_trans (Nat.le_of_lt (by rw [World.size_alloc]; exact Nat.lt_succ_self _)) hg6.size)
                have hH6 := (hg6.block bl (by rw [World.size_alloc]; exact Nat.lt_succ_of_lt HL5.out) (fun e => own_ne_type HO5.out HH5.out (by decide) e.symm)).trans ((hA.block bl HL5.out).trans HH5.out)
                exact ⟨m + 1, _, _, by omega, by go_num, Lib.hid (by rw [E.out, List.length_append, List.length_singleton]; exact hown6), Lib.hid (by rw [E.out, outs_snoc]; exact hI5), Lib.hid (by rw [E.out]; exact shCells_snoc HS.out HXL2.out), Lib.hid hH6, (HB5.out.alloc HB5.out.size _).grown hg6 (by rw [World.size_alloc]; exact Nat.le_succ_of_le HB5.out.size) (fun j hj => (HO5.out.lt j hj).1)⟩
              case measure => simp [intOf]; omega
            · have E := Lib.hid (show shTo S k ++ shIn S k true (pl.take (m + 1)) = L by rw [HST.out, HN.out hri, List.append_nil])
              clear HST HY HN
              go_wp2_with (go_at_call 58; (with_reducible refine (HLK.out _ HE1.out HR1.out).mono ?_); rintro e w4 ⟨rfl, hb4⟩; have k1 := keepcT hb4 (keepcT HBa.out g1); have HB4 := Lib.hid (HB1.out.trans (hb4.mono HB1.out.size)); have HO4 := Lib.hid (own_keep (own_keep HO.out HBa.out) hb4); have HI4 := Lib.hid (((HI.out.keep HBa.out).keep hb4).wider (Nat.le_trans HBa.out.size hb4.size)); have HH4 := Lib.hid ((hb4.block bl (by rw [World.size_alloc]; exact Nat.lt_succ_of_lt hlb)).trans ((HBa.out.block bl hlb).trans HH.out)); clear hb4)
              go_roundw
              case rel => exact ⟨m + 1, xs, U, by omega, by go_num, by rw [E.out]; exact HO4, by rw [E.out]; exact HI4, by rw [E.out]; exact HS, HH4, HB4.out⟩
              case measure => simp [intOf]; omega
        · obtain rfl : m = pl.length := by omega
          have E := Lib.hid HFIN.out
          go_wp2
          go_roundw
          case rel => exact ⟨k + 1, xs, U, by omega, by go_num, by rw [← E.out]; exact HO, by rw [← E.out]; exact HI, by rw [← E.out]; exact HS, HB.out⟩
          case measure => simp [intOf]; omega
    · obtain rfl : k = S.length := by omega
      go_wp2
      go_ret2
      exact ⟨_, rfl, OwnSh.of HO.out HI.out HS.out HW.out, HB2.out.trans (HB.out.mono HW.out)⟩

end Go.Proofs.YtdidgaibgkdjoaaGreatDoor
