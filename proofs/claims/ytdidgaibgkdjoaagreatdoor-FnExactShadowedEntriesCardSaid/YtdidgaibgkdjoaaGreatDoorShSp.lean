/-
  CONTRACT: the entries of a stack that others hide, of the reference.
-/
import Derived.Test.YtdidgaibgkdjoaaGreatDoorShI
namespace Go.Proofs.YtdidgaibgkdjoaaGreatDoor
open Go.RowKit

theorem Inner.notRowH {w : World} {lo hi sz p : Nat} {xs : List Value} {L : List (List Int)} {U : Nat → Value} (h : Inner w lo hi xs sz p L U) : ∀ j, j < L.length → (U j).ownBlock = none ∨ (U j).ownBlock ≠ some w.heap.size := fun j hj => own_not (h.1 j hj).2.1 (Nat.le_refl _)
theorem sh_off {S : List Lay} {k : Nat} (hk : k < S.length) {pl : List Ent} (hp : S[k] = (pl, false)) (m : Nat) : shTo S k ++ shIn S k false (pl.take m) = shTo S (k + 1) := by
  rw [shIn_off, shTo_next hk hp, shIn_off]
theorem sh_agree {S : List Lay} {k m : Nat} (hk : k < S.length) {pl : List Ent} (hp : S[k] = (pl, true)) (hm : m < pl.length) : stI (pl[m]).1 0 S = (stFrom (pl[m]).1 0 S).2.1 := by
  have h := st_agree (S := S) (i := k) (k := m) hk (by rw [hp]) (by rw [hp]; exact hm)
  simp only [hp] at h
  exact h.1

set_option maxRecDepth 20000 in
set_option maxHeartbeats 6400000 in
theorem specShadowedEntries_any (v : Value) (S : List Lay) (w : World) (hr : Lays w v S) (hl : S.length ≤ 1048576) (hs : ∀ q ∈ S, LayFit q) :
    Calls Tryz.prog 17 #[.agg #[v]] w (RetSh w (shOut S) (stackOk S)) := by
  have HB0 := Lib.hid (Joins.below_alloc1 w (.cells #[v] 49))
  have HE := Lib.hid (hr.keep HB0.out)
  have HV := Lib.hid (specIsValidStack_any v S _ HE.out hl hs)
  have HF := Lib.hid hs
  obtain ⟨a, cap, rfl, _, _⟩ := lay_form hr
  have HC := Lib.hid (show (w.alloc (.cells #[.slice a S.length cap] 49)).cell? ⟨w.heap.size, 0, none⟩ = some (.slice a S.length cap) by simp [go_sem])
  have E := Lib.hid (show shOut S = if stackOk S = true then shTo S S.length else [] from rfl)
  clear hr hs
  cases hx : stackOk S
  · rw [hx] at HV E
    have E1 : shOut S = [] := E.out
    rw [E1]
    clear E E1 hx
    go_enter Tryz.func17, Tryz.ntmps17
    go_wp2_with (go_at_call 54; (with_reducible refine HV.out.mono ?_); rintro e w1 ⟨rfl, hb1⟩; have HB1 := Lib.hid (HB0.out.trans (hb1.mono HB0.out.size)); clear hb1)
    go_ret2
    exact ⟨_, rfl, OwnSh.nil _ _, HB1.out⟩
  rw [hx] at HV E
  have E1 : shOut S = shTo S S.length := E.out
  have HDK := Lib.hid (stack_told hx).2
  have HLB := Lib.hid (fun k (hk : k < S.length) pl py (hp : S[k] = (pl, py)) m => sh_bound hx hk hp m)
  rw [E1]
  clear E E1 hx
  go_enter Tryz.func17, Tryz.ntmps17
  go_upto_region 3 with (go_at_call 54; (with_reducible refine HV.out.mono ?_); rintro e W0 ⟨rfl, hb1⟩; have HB2 := Lib.hid (HB0.out.trans (hb1.mono HB0.out.size)); have HE2 := Lib.hid (HE.out.keep hb1); have HC2 := Lib.hid (keepcT hb1 HC.out); clear hb1)
  clear HB0 HE HC HV
  have HW := Lib.hid (show w.heap.size ≤ W0.heap.size from HB2.out.size)
  have HR0 := Lib.hid (World.ownsRow_made (base := W0.heap.size) (e := 99) (size := 3) W0 #[] 0 (Nat.le_refl _) (by unfold maxLen; omega) rfl)
  go_upto_region 5 with fail
  go_loopw [4, 5] (fun out i wr => ∃ (k : Nat) (xs : List Value) (U : Nat → Value), k ≤ S.length ∧ i = .int .i64 k ∧ Hid (wr.ownsRow W0.heap.size 99 3 out (shTo S k).length xs) ∧ Hid (Inner wr W0.heap.size wr.heap.size xs 3 2 (outs (shTo S k)) U) ∧ Hid (ShCells xs (shTo S k)) ∧ Below W0.heap.size W0 wr) (fun _ i _ => S.length - (intOf i).toNat)
  case atStart => exact ⟨0, [], _, Nat.zero_le _, rfl, HR0, Lib.hid (Inner.nil _ _ _ _ _), Lib.hid (fun j hj => absurd hj (Nat.not_lt_zero j)), Joins.below_alloc1 _ _⟩
  clear HR0
  case round =>
    obtain ⟨k, xs, U, hk, rfl, HO, HI, HS, hb⟩ := hrel
    have HB := Lib.hid hb; clear hb
    obtain ⟨al, cl, rfl⟩ := row_formD HO.out
    have q0 := keepcT HB.out HC2.out
    by_cases hlt : k < S.length
    · obtain ⟨b, off, u, rfl, c1, c2, c3⟩ := lay_at HE2.out k hlt
      have hki : (k : Int) < (S.length : Int) := by omega
      have hk0 : (0 : Int) ≤ (k : Int) := by omega
      have hf := HF.out _ (List.getElem_mem hlt)
      have hdk := HDK.out _ (List.getElem_mem hlt)
      generalize hpk : S[k] = p at c1 c2 c3 hf hdk
      obtain ⟨pl, py⟩ := p
      dsimp only at c1 c2 c3 hf hdk
      have HB3 := Lib.hid (HLB.out k hlt pl py hpk)
      have HFIN := Lib.hid (sh_done hlt hpk)
      have HOK := Lib.hid (fun m (hm : m < pl.length) => ent_outlineH hdk hm)
      have HP1 := Lib.hid hf.2
      have HPK := Lib.hid hpk
      have hpll := hf.1
      obtain ⟨au, cu, rfl, _, _⟩ := ent_form c3
      have HEp := Lib.hid c3
      have HC1 := Lib.hid c1
      have HCC := Lib.hid c2
      have HO0 := Lib.hid (show wr.ownsRow W0.heap.size 99 3 (.slice al (shTo S k).length cl) (shTo S k ++ shIn S k py (pl.take 0)).length xs by rw [shIn_zero, List.append_nil]; exact HO.out)
      have HI0 := Lib.hid (show Inner wr W0.heap.size wr.heap.size xs 3 2 (outs (shTo S k ++ shIn S k py (pl.take 0))) U by rw [shIn_zero, List.append_nil]; exact HI.out)
      have HS0 := Lib.hid (show ShCells xs (shTo S k ++ shIn S k py (pl.take 0)) by rw [shIn_zero, List.append_nil]; exact HS.out)
      clear HO HI HS hpk hf hdk c1 c2 c3
      go_upto_region 8 with fail
      clear q0
      go_loopw [4, 6] (fun out i w2 => ∃ (m : Nat) (xs : List Value) (U : Nat → Value), m ≤ pl.length ∧ i = .int .i64 m ∧ Hid (w2.ownsRow W0.heap.size 99 3 out (shTo S k ++ shIn S k py (pl.take m)).length xs) ∧ Hid (Inner w2 W0.heap.size w2.heap.size xs 3 2 (outs (shTo S k ++ shIn S k py (pl.take m))) U) ∧ Hid (ShCells xs (shTo S k ++ shIn S k py (pl.take m))) ∧ Below W0.heap.size W0 w2) (fun _ i _ => pl.length - (intOf i).toNat)
      case atStart => exact ⟨0, xs, U, Nat.zero_le _, rfl, HO0, HI0, HS0, HB.out⟩
      clear HO0 HI0 HS0 HB
      case round =>
        obtain ⟨m, xs, U, hm, rfl, HO, HI, HS, hb⟩ := hrel
        have HB := Lib.hid hb; clear hb
        obtain ⟨al2, cl2, rfl⟩ := row_formD HO.out
        have hbd := HB3.out m
        have q0 := keepcT HB.out HC2.out
        have c1 := keepcT HB.out HC1.out
        have c2 := keepcT HB.out HCC.out
        cases py
        · have E := Lib.hid (sh_off hlt HPK.out m)
          go_wp2
          go_roundw
          case rel => exact ⟨k + 1, xs, U, by omega, by go_num, by rw [← E.out]; exact HO, by rw [← E.out]; exact HI, by rw [← E.out]; exact HS, HB.out⟩
          case measure => simp [intOf]; omega
        by_cases hmt : m < pl.length
        · obtain ⟨b2, off2, u2, rfl, d1, d2, d3⟩ := ent_at (HEp.out.keep HB.out) m hmt
          have hmi : (m : Int) < (pl.length : Int) := by omega
          have hm0 : (0 : Int) ≤ (m : Int) := by omega
          have hok := HOK.out m hmt
          have hql := HP1.out _ (List.getElem_mem hmt)
          have HST := Lib.hid (sh_step (S := S) (k := k) (py := true) hmt)
          have hag := sh_agree hlt HPK.out hmt
          generalize pl[m] = q at d1 d2 d3 hok hql HST hag
          obtain ⟨ql, qt⟩ := q
          dsimp only at d1 d2 d3 hok hql HST hag
          replace hql := hql.1
          have z1 := (Pl.outline_len hok).1
          obtain ⟨au2, cu2, rfl, hcu2, _⟩ := rows_form d3
          obtain ⟨bu, ou, rfl⟩ : ∃ bu ou, au2 = some ⟨bu, ou, none⟩ := by
            obtain ⟨a1, c1', h1, _, _, _, _, h6⟩ := d3
            cases h1
            obtain ⟨b1, o1, e1, _⟩ := h6 _ _ (ints_at ql 0 (by omega))
            exact ⟨b1, o1, e1⟩
          generalize shTo S k ++ shIn S k true (pl.take m) = L at HO HI HS HST hbd
          have HXL := Lib.hid (show xs.length = (outs L).length * 3 by rw [outs_len]; exact HO.out.1)
          have HXL2 := Lib.hid (show xs.length = L.length * 3 from HO.out.1)
          have HR := Lib.hid d3
          have HEw := Lib.hid (HE2.out.keep HB.out)
          have HLK := Lib.hid (fun W h1 h2 => l8Find_any (.slice (some ⟨b, off, none⟩) S.length cap) (.slice (some ⟨bu, ou, none⟩) ql.length cu2) S ql W h1 hl HF.out h2)
          rw [hag] at HLK
          have HY := Lib.hid (fun h : (stFrom ql 0 S).2.1 < (k : Int) => shOne_yes h)
          have HN := Lib.hid (fun h : ¬ (stFrom ql 0 S).2.1 < (k : Int) => shOne_no (y := true) h)
          clear hag
          generalize (stFrom ql 0 S).2.1 = ri at HLK HY HN
          clear d3 hok
          by_cases hri : ri < (k : Int)
          · have E := Lib.hid (show shTo S k ++ shIn S k true (pl.take (m + 1)) = L ++ [((k : Int), ri, ql)] by rw [HST.out, HY.out hri])
            clear HST HY HN
            go_upto_region 13 with (go_at_call 55; (with_reducible refine (HLK.out _ HEw.out HR.out).mono ?_); rintro e w4 ⟨rfl, hb4⟩; have HR4 := Lib.hid (HR.out.keep hb4); have HB4 := Lib.hid (HB.out.trans (hb4.mono HB.out.size)); have HO4 := Lib.hid (own_keep HO.out hb4); have HI4 := Lib.hid ((HI.out.keep hb4).wider hb4.size); clear hb4)
            have HBa := Lib.hid (Joins.below_alloc1 w4 (.cells #[] 3))
            have HOi := Lib.hid (World.ownsRow_made (base := w4.heap.size) (e := 3) (size := 1) w4 #[] 0 (Nat.le_refl _) (by unfold maxLen; omega) rfl)
            have HCN := Lib.hid (((rows_cellsH HR4.out).1.keep HBa.out).news)
            have HO5 := Lib.hid (own_keep HO4.out HBa.out)
            have HI5 := Lib.hid (HI4.out.keep HBa.out)
            have hnO := own_not HO4.out (Nat.le_refl _)
            have HNR := Lib.hid HI4.out.notRowH
            have HZW := Lib.hid HB4.out.size
            go_wp2_with (first
              | (at_builtin; have HO7 := HO6; refine app_sh rfl _ _ rfl W0.heap.size _ L.length xs rfl (HO7.out.alloc _) ⟨_, 0, none⟩ 1 (k : Int) ri a5 ql.length k5 rfl (sh_news _ _ _ _ _ _ rfl) (by omega) (by rw [World.size_alloc]; have := HB5.out.size; omega) ?_; intro v6 w6 hown6 hg6)
              | (at_builtin; refine app_int rfl _ _ rfl w4.heap.size _ 0 [] rfl HOi.out ⟨bu, ou, none⟩ ql.length cu2 ql rfl rfl HCN.out (by omega) (by simp) ?_; intro v5 w5 hown5 hg5; have hown5' : w5.ownsRow w4.heap.size 3 1 v5 ql.length (ints ql) := (by simpa using hown5); obtain ⟨a5, k5, rfl⟩ := row_formD hown5'; have HU5 := Lib.hid hown5'; have HO6 := Lib.hid (HO5.out.kept hg5 hnO); have HI6 := Lib.hid (HI5.out.grown hg5 HNR.out); have HH5 := Lib.hid (Nat.le_trans HBa.out.size hg5.size); have HB5 := Lib.hid ((HB4.out.alloc HB4.out.size (.cells #[] 3)).grown hg5 (by rw [World.size_alloc]; exact Nat.le_succ_of_le HB4.out.size) (fun j hj => by have h : w4.heap.size = j := Option.some.inj hj; have := HZW.out; omega)); clear hown5 hown5' hg5))
            go_roundw
            case rel =>
              have hI4 := HI6.out.snoc (hi' := w5.heap.size) HXL.out (ys := [.int .i64 (k : Int), .int .i64 ri, .slice a5 ql.length k5]) rfl HU5.out HZW.out (fun g hg => (HU5.out.lt g hg).2) HH5.out
              have hA := Joins.below_alloc1 w5 (.cells #[.int .i64 (k : Int), .int .i64 ri, .slice a5 ql.length k5] 99)
              have hI5 := ((hI4.keep hA).grown hg6 ((hI4.keep hA).apart (HO6.out.alloc _) (by decide))).wider (Nat.le_trans (Nat.le_of_lt (by rw [World.size_alloc]; exact Nat.lt_succ_self _)) hg6.size)
              exact ⟨m + 1, _, _, by omega, by go_num, Lib.hid (by rw [E.out, List.length_append, List.length_singleton]; exact hown6), Lib.hid (by rw [E.out, outs_snoc]; exact hI5), Lib.hid (by rw [E.out]; exact shCells_snoc HS.out HXL2.out), (HB5.out.alloc HB5.out.size _).grown hg6 (by rw [World.size_alloc]; exact Nat.le_succ_of_le HB5.out.size) (fun j hj => (HO6.out.lt j hj).1)⟩
            case measure => simp [intOf]; omega
          · have E := Lib.hid (show shTo S k ++ shIn S k true (pl.take (m + 1)) = L by rw [HST.out, HN.out hri, List.append_nil])
            clear HST HY HN
            go_wp2_with (go_at_call 55; (with_reducible refine (HLK.out _ HEw.out HR.out).mono ?_); rintro e w4 ⟨rfl, hb4⟩; have HB4 := Lib.hid (HB.out.trans (hb4.mono HB.out.size)); have HO4 := Lib.hid (own_keep HO.out hb4); have HI4 := Lib.hid ((HI.out.keep hb4).wider hb4.size); clear hb4)
            go_roundw
            case rel => exact ⟨m + 1, xs, U, by omega, by go_num, by rw [E.out]; exact HO4, by rw [E.out]; exact HI4, by rw [E.out]; exact HS, HB4.out⟩
            case measure => simp [intOf]; omega
        · obtain rfl : m = pl.length := by omega
          have E := Lib.hid HFIN.out
          go_wp2
          go_roundw
          case rel => exact ⟨k + 1, xs, U, by omega, by go_num, by rw [← E.out]; exact HO, by rw [← E.out]; exact HI, by rw [← E.out]; exact HS, HB.out⟩
          case measure => simp [intOf]; omega
    · obtain rfl : k = S.length := by omega
      go_wp2
      go_ret2
      exact ⟨_, rfl, OwnSh.of HO.out HI.out HS.out HW.out, HB2.out.trans (HB.out.mono HW.out)⟩

end Go.Proofs.YtdidgaibgkdjoaaGreatDoor
