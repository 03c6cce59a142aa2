/-
  CONTRACTS: whether a row of integers holds one: slices.Index, slices.Contains, has, l1Has; and IsValidTranslator, of the program and of the reference.
-/
import Derived.Test.YtdidgaibgkdjoaaGreatDoorScrT
namespace Go.Proofs.YtdidgaibgkdjoaaGreatDoor
open Go.RowKit

theorem hasI_hit (l : List Int) (x : Int) (k : Nat) (h : k < l.length) (hx : l[k] = x) : l.any (· == x) = true :=
  List.any_eq_true.2 ⟨_, List.getElem_mem h, by simp [hx]⟩
theorem hasI_next (l : List Int) (x : Int) (k : Nat) (h : k < l.length) (hx : ¬ l[k] = x) (ha : (l.take k).any (· == x) = false) : (l.take (k + 1)).any (· == x) = false := by
  rw [List.take_add_one, List.getElem?_eq_getElem h, List.any_append, ha]
  simp [hx]
theorem hasI_all (l : List Int) (x : Int) (k : Nat) (h : k = l.length) (ha : (l.take k).any (· == x) = false) : l.any (· == x) = false := by
  subst h
  rwa [List.take_of_length_le (Nat.le_refl _)] at ha

set_option maxHeartbeats 800000 in
theorem IndexI_any (v : Value) (l : List Int) (x : Int) (w : World) (hr : Rows w v l.length 1 (ints l)) (hl : l.length ≤ 1048576) :
    Calls Tryz.prog 167 #[v, .int .i64 x] w fun e w' => (∃ r : Int, e = .returned (.int .i64 r) ∧ decide (0 ≤ r) = l.any (· == x)) ∧ w = w' := by
  obtain ⟨a, cap, rfl, _, _, _, _, hcells⟩ := hr
  have HC := Lib.hid hcells
  clear hcells
  go_enter Tryz.func167, Tryz.ntmps167
  go_wp2
  go_loop [5, 8] (fun _ i => ∃ k : Nat, k ≤ l.length ∧ i = .int .i64 k ∧ Hid ((l.take k).any (· == x) = false)) (fun _ i => l.length - (intOf i).toNat)
  case atStart => exact ⟨0, Nat.zero_le _, rfl, Lib.hid (by simp)⟩
  case round =>
    obtain ⟨k, hk, rfl, HA⟩ := hrel
    by_cases hlt : k < l.length
    · obtain ⟨b, off, rfl, hsrc⟩ := HC.out k _ (ints_at l k hlt)
      have hki : (k : Int) < (l.length : Int) := by omega
      by_cases hx : l[k] = x
      · have HQ := Lib.hid (hasI_hit l x k hlt hx)
        rw [hx] at hsrc
        clear HA hx
        go_wp2
        go_ret
        exact ⟨⟨k, rfl, by rw [HQ.out]; simp⟩, rfl⟩
      · have HQ := Lib.hid (hasI_next l x k hlt hx HA.out)
        generalize l[k] = y at hsrc hx
        have hx2 : ¬ x = y := fun e => hx e.symm
        clear HA
        go_wp2
        go_round
        case rel => exact ⟨k + 1, by omega, by go_num, HQ⟩
        case measure => simp [intOf]; omega
    · have HQ := Lib.hid (hasI_all l x k (by omega) HA.out)
      have hki : ¬ (k : Int) < (l.length : Int) := by omega
      clear HA
      go_wp2
      go_ret
      exact ⟨⟨-1, rfl, by rw [HQ.out]; simp⟩, rfl⟩
theorem ContainsI_any (v : Value) (l : List Int) (x : Int) (w : World) (hr : Rows w v l.length 1 (ints l)) (hl : l.length ≤ 1048576) :
    Calls Tryz.prog 137 #[v, .int .i64 x] w fun e w' => e = .returned (.bool (l.any (· == x))) ∧ w = w' := by
  have H := Lib.hid (IndexI_any v l x w hr hl)
  clear hr
  go_enter Tryz.func137, Tryz.ntmps137
  go_wp2_with (go_at_call 167; refine H.out.mono ?_; rintro e w' ⟨⟨r, rfl, hr⟩, rfl⟩)
  go_ret
  exact ⟨rfl, rfl⟩
theorem hasI_any (v : Value) (l : List Int) (x : Int) (w : World) (hr : Rows w v l.length 1 (ints l)) (hl : l.length ≤ 1048576) :
    Calls Tryz.prog 88 #[v, .int .i64 x] w fun e w' => e = .returned (.bool (l.any (· == x))) ∧ w = w' := by
  have H := Lib.hid (ContainsI_any v l x w hr hl)
  clear hr
  go_enter Tryz.func88, Tryz.ntmps88
  go_wp2_with (go_at_call 137; refine H.out.mono ?_; rintro e w' ⟨rfl, rfl⟩)
  go_ret
  exact ⟨rfl, rfl⟩
set_option maxHeartbeats 800000 in
theorem l1Has_any (v : Value) (l : List Int) (x : Int) (w : World) (hr : Rows w v l.length 1 (ints l)) (hl : l.length ≤ 1048576) :
    Calls Tryz.prog 136 #[v, .int .i64 x] w fun e w' => e = .returned (.bool (l.any (· == x))) ∧ w = w' := by
  obtain ⟨a, cap, rfl, _, _, _, _, hcells⟩ := hr
  have HC := Lib.hid hcells
  clear hcells
  go_enter Tryz.func136, Tryz.ntmps136
  go_wp2
  go_loop [5] (fun i => ∃ k : Nat, k ≤ l.length ∧ i = .int .i64 k ∧ Hid ((l.take k).any (· == x) = false)) (fun i => l.length - (intOf i).toNat)
  case atStart => exact ⟨0, Nat.zero_le _, rfl, Lib.hid (by simp)⟩
  case round =>
    obtain ⟨k, hk, rfl, HA⟩ := hrel
    by_cases hlt : k < l.length
    · obtain ⟨b, off, rfl, hsrc⟩ := HC.out k _ (ints_at l k hlt)
      have hki : (k : Int) < (l.length : Int) := by omega
      by_cases hx : l[k] = x
      · have HQ := Lib.hid (hasI_hit l x k hlt hx)
        rw [hx] at hsrc
        clear HA hx
        go_wp2
        go_ret
        exact ⟨ret_bool HQ.out.symm, rfl⟩
      · have HQ := Lib.hid (hasI_next l x k hlt hx HA.out)
        generalize l[k] = y at hsrc hx
        clear HA
        go_wp2
        go_round
        case rel => exact ⟨k + 1, by omega, by go_num, HQ⟩
        case measure => simp [intOf]; omega
    · have HQ := Lib.hid (hasI_all l x k (by omega) HA.out)
      have hki : ¬ (k : Int) < (l.length : Int) := by omega
      clear HA
      go_wp2
      go_ret
      exact ⟨ret_bool HQ.out.symm, rfl⟩

/-- a translator: strokes that do not undo, and what they write -/
def trOk (l : List Ent) (o : List Int) (t : ByteArray) : Bool := scOk l o && (((scOut l o).toList == t.toList) && !(o.any (· == 1024)))

set_option maxRecDepth 20000 in
set_option maxHeartbeats 1600000 in
theorem IsValidTranslator_any (v vo : Value) (l : List Ent) (o : List Int) (t : ByteArray) (w : World) (hr : Ents w v l) (hl : l.length ≤ 1048576) (hs : ∀ p ∈ l, p.1.length ≤ 1048576 ∧ p.2.size ≤ 1048576) (ho : Rows w vo o.length 1 (ints o)) (hol : o.length ≤ 1048576) (hm : ∃ m, w.cell? ⟨0, 0, none⟩ = some (.int .i64 m)) :
    Calls Tryz.prog 41 #[.agg #[v], .agg #[vo, .string t]] w fun e w' => e = .returned (.bool (trOk l o t)) ∧ Below w.heap.size w w' := by
  have HBx := Lib.hid (Joins.below_alloc2 w (.cells #[v] 26) (.cells #[vo, .string t] 78))
  have HS := Lib.hid (ScreenOf_any v vo l o _ (hr.keep HBx.out) hl hs (ho.keep HBx.out) hol (max_keepT hm HBx.out))
  clear HBx hm
  have HB0 := Lib.hid (Joins.below_alloc2 w (.cells #[v] 26) (.cells #[vo, .string t] 78))
  have HCA := Lib.hid (show ((w.alloc (.cells #[v] 26)).alloc (.cells #[vo, .string t] 78)).cell? ⟨w.heap.size, 0, none⟩ = some v by simp [go_sem])
  have HCB := Lib.hid (show ((w.alloc (.cells #[v] 26)).alloc (.cells #[vo, .string t] 78)).cell? ⟨w.heap.size + 1, 0, none⟩ = some vo by simp [go_sem])
  have HCC := Lib.hid (show ((w.alloc (.cells #[v] 26)).alloc (.cells #[vo, .string t] 78)).cell? ⟨w.heap.size + 1, 1, none⟩ = some (.string t) by simp [go_sem])
  have HO := Lib.hid (ho.keep HB0.out)
  obtain ⟨a, cap, rfl, _, _⟩ := ent_form hr
  obtain ⟨ao, co, rfl, hco, _⟩ := rows_form ho
  have E : Hid (trOk l o t = (scOk l o && (((scOut l o).toList == t.toList) && !(o.any (· == 1024))))) := Lib.hid rfl
  have HH := Lib.hid (fun W h => hasI_any (.slice ao o.length co) o 1024 W h hol)
  generalize trOk l o t = ok at E ⊢
  generalize o.any (· == 1024) = hu at E HH
  generalize scOk l o = y at E HS
  generalize scOut l o = so at E HS
  clear hr hs ho hl
  cases y
  · obtain rfl : ok = false := E.out
    clear E
    go_enter Tryz.func41, Tryz.ntmps41
    go_wp2_with (go_at_call 35; (with_reducible refine HS.out.mono ?_); rintro e w1 ⟨rfl, hb1⟩; have HB1 := Lib.hid (HB0.out.trans (hb1.mono HB0.out.size)); clear hb1)
    go_ret
    exact ⟨rfl, HB1.out⟩
  · cases hst : (so.toList == t.toList)
    · obtain rfl : ok = false := by rw [E.out, hst]; rfl
      clear E
      cases hu
      all_goals
        go_enter Tryz.func41, Tryz.ntmps41
        go_wp2_with (first
          | (go_at_call 88; (with_reducible refine (HH.out _ HO1.out).mono ?_); rintro e w' ⟨rfl, rfl⟩)
          | (go_at_call 35; (with_reducible refine HS.out.mono ?_); rintro e w1 ⟨rfl, hb1⟩; have HB1 := Lib.hid (HB0.out.trans (hb1.mono HB0.out.size)); have HO1 := Lib.hid (HO.out.keep hb1); have d1 := keepcT hb1 HCA.out; have d2 := keepcT hb1 HCB.out; have d3 := keepcT hb1 HCC.out; clear hb1))
        go_ret
        exact ⟨by first | rfl | exact ret_bool hst, HB1.out⟩
    · cases hu
      · obtain rfl : ok = true := by rw [E.out, hst]; rfl
        clear E
        go_enter Tryz.func41, Tryz.ntmps41
        go_wp2_with (first
          | (go_at_call 88; (with_reducible refine (HH.out _ HO1.out).mono ?_); rintro e w' ⟨rfl, rfl⟩)
          | (go_at_call 35; (with_reducible refine HS.out.mono ?_); rintro e w1 ⟨rfl, hb1⟩; have HB1 := Lib.hid (HB0.out.trans (hb1.mono HB0.out.size)); have HO1 := Lib.hid (HO.out.keep hb1); have d1 := keepcT hb1 HCA.out; have d2 := keepcT hb1 HCB.out; have d3 := keepcT hb1 HCC.out; clear hb1))
        go_ret
        exact ⟨by first | rfl | exact ret_bool hst, HB1.out⟩
      · obtain rfl : ok = false := by rw [E.out, hst]; rfl
        clear E
        go_enter Tryz.func41, Tryz.ntmps41
        go_wp2_with (first
          | (go_at_call 88; (with_reducible refine (HH.out _ HO1.out).mono ?_); rintro e w' ⟨rfl, rfl⟩)
          | (go_at_call 35; (with_reducible refine HS.out.mono ?_); rintro e w1 ⟨rfl, hb1⟩; have HB1 := Lib.hid (HB0.out.trans (hb1.mono HB0.out.size)); have HO1 := Lib.hid (HO.out.keep hb1); have d1 := keepcT hb1 HCA.out; have d2 := keepcT hb1 HCB.out; have d3 := keepcT hb1 HCC.out; clear hb1))
        go_ret
        exact ⟨by first | rfl | exact ret_bool hst, HB1.out⟩

set_option maxRecDepth 20000 in
set_option maxHeartbeats 1600000 in
theorem l14Good_any (v vo : Value) (l : List Ent) (o : List Int) (t : ByteArray) (w : World) (hr : Ents w v l) (hl : l.length ≤ 1048576) (hs : ∀ p ∈ l, p.1.length ≤ 1048576 ∧ p.2.size ≤ 1048576) (ho : Rows w vo o.length 1 (ints o)) (hol : o.length ≤ 1048576) :
    Calls Tryz.prog 87 #[.agg #[v], .agg #[vo, .string t]] w fun e w' => e = .returned (.bool (trOk l o t)) ∧ Below w.heap.size w w' := by
  have HBx := Lib.hid (Joins.below_alloc2 w (.cells #[v] 26) (.cells #[vo, .string t] 78))
  have HS := Lib.hid (specScreenOf_any v vo l o _ (hr.keep HBx.out) hl hs (ho.keep HBx.out) hol)
  clear HBx
  have HB0 := Lib.hid (Joins.below_alloc2 w (.cells #[v] 26) (.cells #[vo, .string t] 78))
  have HCA := Lib.hid (show ((w.alloc (.cells #[v] 26)).alloc (.cells #[vo, .string t] 78)).cell? ⟨w.heap.size, 0, none⟩ = some v by simp [go_sem])
  have HCB := Lib.hid (show ((w.alloc (.cells #[v] 26)).alloc (.cells #[vo, .string t] 78)).cell? ⟨w.heap.size + 1, 0, none⟩ = some vo by simp [go_sem])
  have HCC := Lib.hid (show ((w.alloc (.cells #[v] 26)).alloc (.cells #[vo, .string t] 78)).cell? ⟨w.heap.size + 1, 1, none⟩ = some (.string t) by simp [go_sem])
  have HO := Lib.hid (ho.keep HB0.out)
  obtain ⟨a, cap, rfl, _, _⟩ := ent_form hr
  obtain ⟨ao, co, rfl, hco, _⟩ := rows_form ho
  have E : Hid (trOk l o t = (scOk l o && (((scOut l o).toList == t.toList) && !(o.any (· == 1024))))) := Lib.hid rfl
  have HH := Lib.hid (fun W h => l1Has_any (.slice ao o.length co) o 1024 W h hol)
  generalize trOk l o t = ok at E ⊢
  generalize o.any (· == 1024) = hu at E HH
  generalize scOk l o = y at E HS
  generalize scOut l o = so at E HS
  clear hr hs ho hl
  cases y
  · obtain rfl : ok = false := E.out
    clear E
    go_enter Tryz.func87, Tryz.ntmps87
    go_wp2_with (go_at_call 32; (with_reducible refine HS.out.mono ?_); rintro e w1 ⟨rfl, hb1⟩; have HB1 := Lib.hid (HB0.out.trans (hb1.mono HB0.out.size)); clear hb1)
    go_ret
    exact ⟨rfl, HB1.out⟩
  · cases hst : (so.toList == t.toList)
    · obtain rfl : ok = false := by rw [E.out, hst]; rfl
      clear E
      cases hu
      all_goals
        go_enter Tryz.func87, Tryz.ntmps87
        go_wp2_with (first
          | (go_at_call 136; (with_reducible refine (HH.out _ HO1.out).mono ?_); rintro e w' ⟨rfl, rfl⟩)
          | (go_at_call 32; (with_reducible refine HS.out.mono ?_); rintro e w1 ⟨rfl, hb1⟩; have HB1 := Lib.hid (HB0.out.trans (hb1.mono HB0.out.size)); have HO1 := Lib.hid (HO.out.keep hb1); have d1 := keepcT hb1 HCA.out; have d2 := keepcT hb1 HCB.out; have d3 := keepcT hb1 HCC.out; clear hb1))
        go_ret
        exact ⟨by first | rfl | exact ret_bool hst, HB1.out⟩
    · cases hu
      · obtain rfl : ok = true := by rw [E.out, hst]; rfl
        clear E
        go_enter Tryz.func87, Tryz.ntmps87
        go_wp2_with (first
          | (go_at_call 136; (with_reducible refine (HH.out _ HO1.out).mono ?_); rintro e w' ⟨rfl, rfl⟩)
          | (go_at_call 32; (with_reducible refine HS.out.mono ?_); rintro e w1 ⟨rfl, hb1⟩; have HB1 := Lib.hid (HB0.out.trans (hb1.mono HB0.out.size)); have HO1 := Lib.hid (HO.out.keep hb1); have d1 := keepcT hb1 HCA.out; have d2 := keepcT hb1 HCB.out; have d3 := keepcT hb1 HCC.out; clear hb1))
        go_ret
        exact ⟨by first | rfl | exact ret_bool hst, HB1.out⟩
      · obtain rfl : ok = false := by rw [E.out, hst]; rfl
        clear E
        go_enter Tryz.func87, Tryz.ntmps87
        go_wp2_with (first
          | (go_at_call 136; (with_reducible refine (HH.out _ HO1.out).mono ?_); rintro e w' ⟨rfl, rfl⟩)
          | (go_at_call 32; (with_reducible refine HS.out.mono ?_); rintro e w1 ⟨rfl, hb1⟩; have HB1 := Lib.hid (HB0.out.trans (hb1.mono HB0.out.size)); have HO1 := Lib.hid (HO.out.keep hb1); have d1 := keepcT hb1 HCA.out; have d2 := keepcT hb1 HCB.out; have d3 := keepcT hb1 HCC.out; clear hb1))
        go_ret
        exact ⟨by first | rfl | exact ret_bool hst, HB1.out⟩

set_option maxHeartbeats 800000 in
theorem specIsValidTranslator_any (v vo : Value) (l : List Ent) (o : List Int) (t : ByteArray) (w : World) (hr : Ents w v l) (hl : l.length ≤ 1048576) (hs : ∀ p ∈ l, p.1.length ≤ 1048576 ∧ p.2.size ≤ 1048576) (ho : Rows w vo o.length 1 (ints o)) (hol : o.length ≤ 1048576) :
    Calls Tryz.prog 39 #[.agg #[v], .agg #[vo, .string t]] w fun e w' => e = .returned (.bool (trOk l o t)) ∧ Below w.heap.size w w' := by
  have HB0 := Lib.hid (Joins.below_alloc2 w (.cells #[v] 26) (.cells #[vo, .string t] 78))
  have HG := Lib.hid (l14Good_any v vo l o t _ (hr.keep HB0.out) hl hs (ho.keep HB0.out) hol)
  obtain ⟨a, cap, rfl, _, _⟩ := ent_form hr
  obtain ⟨ao, co, rfl, _, _⟩ := rows_form ho
  clear hr ho
  go_enter Tryz.func39, Tryz.ntmps39
  go_wp2_with (go_at_call 87; (with_reducible refine HG.out.mono ?_); rintro e w1 ⟨rfl, hb1⟩; have HB1 := Lib.hid (HB0.out.trans (hb1.mono HB0.out.size)); clear hb1)
  go_ret
  exact ⟨rfl, HB1.out⟩

end Go.Proofs.YtdidgaibgkdjoaaGreatDoor
