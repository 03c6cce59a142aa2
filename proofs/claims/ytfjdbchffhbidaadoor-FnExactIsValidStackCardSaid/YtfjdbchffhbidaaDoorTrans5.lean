/-
  CONTRACTS: isTranslation; l5List and l5Parse of the reference.
-/
import Derived.Test.YtfjdbchffhbidaaDoorTrans4
namespace Go.Proofs.YtfjdbchffhbidaaDoor
open Go.RowKit

set_option maxHeartbeats 400000 in
theorem isTranslation_any (s : ByteArray) (w : World) (hs : s.size ≤ 4194304) (hm : ∃ m, w.cell? ⟨0, 0, none⟩ = some (.int .i64 m)) :
    Calls Tryd.prog 45 #[.string s] w fun e w' => e = .returned (.bool (Pl.transOk s)) ∧ Below w.heap.size w w' := by
  have H := Lib.hid (ParseTranslation_any s w hs hm)
  clear hm
  go_enter Tryd.func45, Tryd.ntmps45
  go_wp2_with (go_at_call 82; (with_reducible refine H.out.mono ?_); rintro e w1 ⟨v, rfl, hown, hb⟩; obtain ⟨ao, co, rfl⟩ := row_formA hown; have HB := Lib.hid hb; clear hown hb)
  go_ret
  exact ⟨rfl, HB.out⟩

theorem Pl.fmtSz_next (l : List (Int × ByteArray)) (k : Nat) (h : k < l.length) : Pl.fmtSz (l.take (k + 1)) = Pl.fmtSz (l.take k) + (Pl.fmtA (l[k]).1 (l[k]).2).size := by
  unfold Pl.fmtSz
  rw [List.take_add_one, List.getElem?_eq_getElem h, List.map_append, List.sum_append]
  simp
theorem Pl.list_no1 {l : List (Int × ByteArray)} (h : Pl.inB l.length 1 10 = false) : Pl.listOk l = false := by unfold Pl.listOk; rw [h]; rfl
theorem Pl.list_no2 {l : List (Int × ByteArray)} {k : Nat} (hk : k < l.length) (h : Pl.atomOk (l[k]).1 (l[k]).2 = false) : Pl.listOk l = false := by
  have : (l.all fun p => Pl.atomOk p.1 p.2) = false := by
    rw [List.all_eq_false]
    exact ⟨l[k], List.getElem_mem hk, by rw [h]; decide⟩
  unfold Pl.listOk; rw [this, Bool.and_false]; rfl
theorem Pl.list_is {l : List (Int × ByteArray)} (h1 : Pl.inB l.length 1 10 = true) (h2 : ((l.take l.length).all fun p => Pl.atomOk p.1 p.2) = true) : Pl.listOk l = decide (((l.length : Int) - 1 + (Pl.fmtSz (l.take l.length) : Int)) ≤ 60) := by
  rw [List.take_length] at h2 ⊢
  unfold Pl.listOk; rw [h1, h2, Bool.true_and, Bool.true_and]
  apply Bool.eq_iff_iff.2
  simp only [decide_eq_true_iff]
  omega
theorem Pl.list_next {l : List (Int × ByteArray)} {k : Nat} (hk : k < l.length) (h : ((l.take k).all fun p => Pl.atomOk p.1 p.2) = true) (h2 : Pl.atomOk (l[k]).1 (l[k]).2 = true) : ((l.take (k + 1)).all fun p => Pl.atomOk p.1 p.2) = true := by
  rw [List.take_add_one, List.getElem?_eq_getElem hk, List.all_append, h]
  simp [h2]

set_option maxRecDepth 20000 in
set_option maxHeartbeats 1600000 in
theorem l5List_any (v : Value) (l : List (Int × ByteArray)) (w : World) (hr : Rows w v l.length 2 (folds l)) (hl : l.length ≤ 1000) (hz : ∀ p ∈ l, p.2.size ≤ 1048576) :
    Calls Tryd.prog 110 #[v] w fun e w' => e = .returned (.bool (Pl.listOk l)) ∧ Below w.heap.size w w' := by
  obtain ⟨a, cap, rfl, _, _, _, _, hcells⟩ := hr
  have HC := Lib.hid hcells; have HZ := Lib.hid hz; clear hcells hz
  cases h1 : Pl.inB l.length 1 10
  · have E := Lib.hid (Pl.list_no1 h1)
    go_enter Tryd.func110, Tryd.ntmps110
    go_wp2_with (go_at_call 72; refine (l1In_any _ _ _ _).mono ?_; rintro e w' ⟨he, rfl⟩; rw [h1] at he; subst he)
    go_ret
    exact ⟨ret_bool E.out.symm, Below.refl _ _⟩
  have hp : 1 ≤ l.length := by simp only [Pl.inB, Bool.and_eq_true, decide_eq_true_iff] at h1; omega
  go_enter Tryd.func110, Tryd.ntmps110
  go_wp2_with (go_at_call 72; refine (l1In_any _ _ _ _).mono ?_; rintro e w' ⟨he, rfl⟩; rw [h1] at he; subst he)
  go_loopw [3, 4] (fun n i wr => ∃ k : Nat, k ≤ l.length ∧ i = .int .i64 k ∧ n = .int .i64 ((l.length : Int) - 1 + (Pl.fmtSz (l.take k) : Int)) ∧ Pl.fmtSz (l.take k) ≤ 24 * k ∧ Hid (((l.take k).all fun p => Pl.atomOk p.1 p.2) = true) ∧ Below w.heap.size w wr) (fun _ i _ => l.length - (intOf i).toNat)
  case atStart => exact ⟨0, Nat.zero_le _, rfl, by simp [Pl.fmtSz], by simp [Pl.fmtSz], Lib.hid rfl, Below.refl _ _⟩
  case round =>
    obtain ⟨k, hk, rfl, rfl, hn, HA, hb⟩ := hrel
    have HB := Lib.hid hb; clear hb
    by_cases hlt : k < l.length
    · obtain ⟨b, off, rfl, c1, c2⟩ := fold_cells (HC.out.keep HB.out) k hlt
      have hx := HZ.out _ (List.getElem_mem hlt)
      have hki : (k : Int) < (l.length : Int) := by omega
      cases hq : Pl.atomOk (l[k]).1 (l[k]).2
      · have E := Lib.hid (Pl.list_no2 hlt hq)
        generalize l[k] = p at c1 c2 hx hq
        obtain ⟨pa, px⟩ := p
        replace hx : px.size ≤ 1048576 := hx
        replace hq : Pl.atomOk pa px = false := hq
        have hx' : px.size ≤ maxLen := by unfold maxLen; omega
        go_wp2_with (go_at_call 134; (with_reducible refine (l5Good_any _ _ _ hx').mono ?_); rintro e w2 ⟨he, hb2⟩; rw [hq] at he; subst he; have HB2 := Lib.hid (below_on3 HB.out hb2); clear hb2)
        go_ret
        exact ⟨ret_bool E.out.symm, HB2.out⟩
      · have HN := Lib.hid (Pl.list_next hlt HA.out hq)
        have HS := Lib.hid (Pl.fmtSz_next l k hlt)
        generalize l[k] = p at c1 c2 hx hq HS
        obtain ⟨pa, px⟩ := p
        replace hx : px.size ≤ 1048576 := hx
        replace hq : Pl.atomOk pa px = true := hq
        replace HS : Hid (Pl.fmtSz (l.take (k + 1)) = Pl.fmtSz (l.take k) + (Pl.fmtA pa px).size) := HS
        have hx' : px.size ≤ maxLen := by unfold maxLen; omega
        have hfz := (Pl.fmt_size hq).2
        have HL := Lib.hid (fun W => l5Format_any pa px W hx)
        generalize Pl.fmtSz (l.take k) = n at HS hn ⊢
        generalize Pl.fmtA pa px = y at HS hfz HL
        clear HA
        go_wp2_with (first
          | (go_at_call 135; (with_reducible refine (HL.out _).mono ?_); rintro e w3 ⟨rfl, hb3⟩; have HB3 := Lib.hid (below_on3 HB2.out hb3); clear hb3)
          | (go_at_call 134; (with_reducible refine (l5Good_any _ _ _ hx').mono ?_); rintro e w2 ⟨he, hb2⟩; rw [hq] at he; subst he; have HB2 := Lib.hid (below_on3 HB.out hb2); have d1 := keepc hb2 c1; have d2 := keepc hb2 c2; clear hb2))
        go_roundw
        case rel => exact ⟨k + 1, by omega, by go_num, by rw [HS.out]; go_num, by rw [HS.out]; omega, HN, HB3.out⟩
        case measure => simp [intOf]; omega
    · obtain rfl : k = l.length := by omega
      have E := Lib.hid (Pl.list_is h1 HA.out)
      generalize Pl.fmtSz (l.take l.length) = n at E hn ⊢
      clear HA
      go_wp2
      go_ret
      exact ⟨ret_bool E.out.symm, HB.out⟩

theorem two_rows {w : World} {b1 b2 : Nat} {v1 v2 : Value} {n m : Nat} {xs ys : List Value} (h : w.ownsRow b1 9 1 v1 n xs) (h2 : w.ownsRow b2 143 2 v2 m ys) : v1.ownBlock = none ∨ v1.ownBlock ≠ v2.ownBlock := by
  rcases h.2 with ⟨rfl, _⟩ | ⟨g, cap, cur, rfl, _, hg, _⟩
  · exact .inl rfl
  · right
    rcases h2.2 with ⟨rfl, _⟩ | ⟨g2, cap2, cur2, rfl, _, hg2, _⟩
    · simp [Value.ownBlock]
    · intro e
      simp only [Value.ownBlock, Option.some.injEq] at e
      subst e
      rw [hg] at hg2
      simp at hg2
theorem made_low (X : World) (T size base b : Nat) (hb : b = X.heap.size) (hl : base ≤ X.heap.size) : (X.alloc (.cells #[] T)).ownsRow base T size (.slice (some ⟨b, 0, none⟩) 0 0) 0 [] := by
  subst hb
  exact own_base (World.ownsRow_made (base := X.heap.size) (e := T) (size := size) X #[] 0 (Nat.le_refl _) (by unfold maxLen; omega) (by simp)) hl
theorem parsed_sz {l : List ByteArray} (h : ∀ x ∈ l, x.size ≤ 1048576) : ∀ p ∈ l.map Pl.parseA, p.2.size ≤ 1048576 := by
  intro p hp
  obtain ⟨x, hx, rfl⟩ := List.mem_map.1 hp
  unfold Pl.parseA
  split
  · exact Nat.le_trans (Pl.kindA_size x) (h x hx)
  · exact Nat.zero_le _

set_option maxRecDepth 20000 in
set_option maxHeartbeats 3200000 in
theorem l5Parse_any (s : ByteArray) (w : World) (hs : s.size ≤ 4194304) :
    Calls Tryd.prog 80 #[.string s] w (Read1 w.heap.size w s) := by
  have HO0 := Lib.hid (World.ownsRow_made (base := w.heap.size) (e := 143) (size := 2) w #[] 0 (Nat.le_refl _) (by unfold maxLen; omega) rfl)
  have HB0 := Lib.hid (Joins.below_alloc1 w (.cells #[] 143))
  by_cases hz : 60 < s.size
  · have E := Lib.hid (Pl.trans_no1 hz)
    have E2 := Lib.hid (Pl.out_no E.out)
    go_enter Tryd.func80, Tryd.ntmps80
    go_wp2
    go_ret2
    exact ⟨_, by rw [E.out]; rfl, by rw [E2.out]; exact HO0.out, HB0.out⟩
  have HS : Hid (∀ W : World, Calls Tryd.prog 46 #[.string s, .int .u8 32] W (Cut1 W.heap.size W 32 s)) := Lib.hid (fun W => l1Split_any s 32 W (by omega))
  have hpl := Pl.parts_len 32 s
  have HPS := Lib.hid (parts_sz 32 s)
  go_enter Tryd.func80, Tryd.ntmps80
  go_wp2_with (go_at_call 46; (with_reducible refine (HS.out _).mono ?_); rintro e w2 ⟨v2, rfl, ho2, hb2⟩; obtain ⟨a2, c2, rfl⟩ := row_formA ho2; have HR2 := Lib.hid ho2; have HB2 := Lib.hid (below_on3 HB0.out hb2); have HO2 := Lib.hid (own_keep HO0.out hb2); clear ho2 hb2)
  go_loopw [4, 6] (fun v i wr => ∃ k : Nat, k ≤ (Pl.parts 32 s).length ∧ i = .int .i64 k ∧ Hid (((Pl.parts 32 s).take k).all Pl.parseOk = true) ∧ wr.ownsRow w.heap.size 143 2 v k (folds (((Pl.parts 32 s).take k).map Pl.parseA)) ∧ Below w.heap.size w wr ∧ wr.ownsRow (w.heap.size + 1) 9 1 (.slice a2 (Pl.parts 32 s).length c2) (Pl.parts 32 s).length (strs (Pl.parts 32 s))) (fun _ i _ => (Pl.parts 32 s).length - (intOf i).toNat)
  case atStart => exact ⟨0, Nat.zero_le _, rfl, Lib.hid rfl, HO2.out, HB2.out, by have h := HR2.out; rw [World.size_alloc] at h; exact h⟩
  clear HO2 HB2 HR2
  case round =>
    obtain ⟨k, hk, rfl, HA, hown, hb, hblk⟩ := hrel
    have HO := Lib.hid hown; have HB := Lib.hid hb; have HK := Lib.hid hblk
    clear hown hb hblk
    by_cases hlt : k < (Pl.parts 32 s).length
    · obtain ⟨_, _, e7, _, _, _, _, hc7⟩ := Rows.of_own HK.out
      cases e7
      obtain ⟨b, off, rfl, c1⟩ := hc7 k _ (strs_at _ k hlt)
      clear hc7
      have hx := HPS.out k hlt
      have hki : (k : Int) < ((Pl.parts 32 s).length : Int) := by omega
      cases hq : Pl.parseOk (Pl.parts 32 s)[k]
      · have E := Lib.hid (Pl.trans_no2 (all_no hlt hq))
        have E2 := Lib.hid (Pl.out_no E.out)
        generalize (Pl.parts 32 s)[k] = x at c1 hx hq
        have HP := Lib.hid (fun W => specParseAtom_any x W (by omega))
        rw [hq] at HP
        clear HA
        go_wp2_with (go_at_call 109; (with_reducible refine (HP.out _).mono ?_); rintro e w3 ⟨rfl, hb3⟩; have HB3 := Lib.hid (below_on3 HB.out hb3); clear hb3)
        go_ret2
        exact ⟨_, by rw [E.out]; rfl, by rw [E2.out]; exact made_low _ _ _ _ _ (by rw [World.size_alloc]) (by rw [World.size_alloc]; exact Nat.le_succ_of_le HB3.out.size), (HB3.out.alloc HB3.out.size _).alloc (by rw [World.size_alloc]; exact Nat.le_succ_of_le HB3.out.size) _⟩
      · have HN := Lib.hid (all_yes hlt HA.out hq)
        have HX := Lib.hid (map_next hlt)
        generalize (Pl.parts 32 s)[k] = x at c1 hx hq HX
        have HP := Lib.hid (fun W => specParseAtom_any x W (by omega))
        rw [hq] at HP
        obtain ⟨qa, qt, hpa⟩ : ∃ qa qt, Pl.parseA x = (qa, qt) := ⟨_, _, rfl⟩
        rw [hpa] at HP HX
        clear hpa HA
        generalize ((Pl.parts 32 s).take k).map Pl.parseA = l at HO HX
        go_wp2_with (first
          | (at_builtin; refine app_atm rfl _ _ rfl w.heap.size _ k (folds l) rfl ((HO3.out.alloc _).alloc _) ⟨_, 0, none⟩ 1 qa qt rfl (atm_news _ _ _ _ _ (by rw [World.size_alloc])) (by omega) (by have := HB3.out.size; rw [World.size_alloc, World.size_alloc]; omega) ?_; intro v4 w4 hown4 hg4)
          | (go_at_call 109; (with_reducible refine (HP.out _).mono ?_); rintro e w3 ⟨rfl, hb3⟩; have HB3 := Lib.hid (below_on3 HB.out hb3); have HO3 := Lib.hid (own_keep HO.out hb3); have HK3 := Lib.hid (own_keep HK.out hb3); clear hb3))
        have hb4 : Below w3.heap.size w3 ((w3.alloc (.cells #[.int .i64 qa, .string qt] 143)).alloc (.cells #[.int .i64 qa, .string qt] 143)) := Joins.below_alloc2 _ _ _
        have ho4 := (HO3.out.alloc (.cells #[.int .i64 qa, .string qt] 143)).alloc (.cells #[.int .i64 qa, .string qt] 143)
        have HB4 := Lib.hid ((below_on3 HB3.out hb4).grown hg4 (Nat.le_trans HB3.out.size hb4.size) (fun j hj => (ho4.lt j hj).1))
        have hk4 := own_keep HK3.out hb4
        have HK4 := Lib.hid (hk4.kept hg4 (two_rows hk4 ho4))
        have HO4 := Lib.hid hown4
        clear HB HO HK HB3 HO3 HK3 hown4 hg4 hb4 ho4 hk4
        go_roundw
        case rel => exact ⟨k + 1, by omega, by go_num, HN, by rw [HX.out, folds_snocA]; exact HO4.out, HB4.out, HK4.out⟩
        case measure => simp [intOf]; omega
    · obtain rfl : k = (Pl.parts 32 s).length := by omega
      have ha := HA.out
      rw [List.take_length] at ha
      rw [List.take_length] at HO
      have E := Lib.hid (Pl.trans_is (by omega) ha)
      have HLO := Lib.hid (Pl.list_parts (by omega) ha)
      have hps := parsed_sz (l := Pl.parts 32 s) (fun x hx => by obtain ⟨i, hi, rfl⟩ := List.mem_iff_getElem.1 hx; have := HPS.out i hi; omega)
      have HPZ := Lib.hid hps
      clear ha HA hps
      obtain ⟨ao, co, rfl⟩ := row_formA HO.out
      have HLL := Lib.hid (l5List_any _ _ wr (show Rows wr (.slice ao (Pl.parts 32 s).length co) ((Pl.parts 32 s).map Pl.parseA).length 2 (folds ((Pl.parts 32 s).map Pl.parseA)) by rw [List.length_map]; exact Rows.of_own HO.out) (by rw [List.length_map]; omega) HPZ.out)
      by_cases h10 : (Pl.parts 32 s).length ≤ 10
      · rw [decide_eq_true h10] at E HLO
        rw [HLO.out] at HLL
        have E2 := Lib.hid (Pl.out_yes E.out)
        go_wp2_with (go_at_call 110; (with_reducible refine HLL.out.mono ?_); rintro e w5 ⟨rfl, hb5⟩; have HO5 := Lib.hid (own_keep HO.out hb5); have HB5 := Lib.hid (below_on3 HB.out hb5); clear hb5)
        go_ret2
        exact ⟨_, by rw [E.out]; rfl, by rw [E2.out, List.length_map]; exact HO5.out, HB5.out⟩
      · rw [decide_eq_false h10] at E HLO
        rw [HLO.out] at HLL
        have E2 := Lib.hid (Pl.out_no E.out)
        go_wp2_with (go_at_call 110; (with_reducible refine HLL.out.mono ?_); rintro e w5 ⟨rfl, hb5⟩; have HB5 := Lib.hid (below_on3 HB.out hb5); clear hb5)
        go_ret2
        exact ⟨_, by rw [E.out]; rfl, by rw [E2.out]; exact made_low _ _ _ _ _ rfl HB5.out.size, HB5.out.alloc HB5.out.size _⟩

end Go.Proofs.YtfjdbchffhbidaaDoor
