/-
  CONTRACTS: Lookup, of the program and of the reference.
-/
import Derived.Test.YtfjdbchffhbidaaDoorFind
import Derived.Test.YtfjdbchffhbidaaDoorDict
import Derived.Test.YtfjdbchffhbidaaDoorGood
namespace Go.Proofs.YtfjdbchffhbidaaDoor
open Go.RowKit

def lookOut (l : List Ent) (o : List Int) : ByteArray := if Pl.dictOk l then Pl.textD l o else ⟨#[]⟩
def lookOk (l : List Ent) (o : List Int) : Bool := Pl.dictOk l && Pl.hasD l o

set_option maxRecDepth 20000 in
set_option maxHeartbeats 1600000 in
theorem l6Find_any (v vo : Value) (l : List Ent) (o : List Int) (w : World) (hr : Ents w v l) (hl : l.length ≤ 1048576) (hs : ∀ p ∈ l, p.1.length ≤ 1048576) (ho : Rows w vo o.length 1 (ints o)) :
    Calls Tryd.prog 61 #[.agg #[v], vo] w fun e w' => e = .returned (.tuple #[.string (Pl.textD l o), .bool (Pl.hasD l o)]) ∧ Below w.heap.size w w' := by
  have HB0 := Lib.hid (Joins.below_alloc1 w (.cells #[v] 49))
  have HE := Lib.hid (hr.keep HB0.out)
  have HO := Lib.hid (ho.keep HB0.out)
  obtain ⟨a, cap, rfl, _, _⟩ := ent_form hr
  obtain ⟨ao, co, rfl, _, _⟩ := rows_form ho
  have HC := Lib.hid (show (w.alloc (.cells #[.slice a l.length cap] 49)).cell? ⟨w.heap.size, 0, none⟩ = some (.slice a l.length cap) by simp [go_sem])
  have HF := Lib.hid (fun W h1 h2 => l6At_any (.slice a l.length cap) (.slice ao o.length co) l o W h1 hl hs h2)
  clear hr hs ho
  rcases Pl.atD_cases l o with h | ⟨k, hk, h, _⟩
  · have E1 := Lib.hid (Pl.textD_none h)
    have E2 := Lib.hid (show Pl.hasD l o = false by unfold Pl.hasD; rw [h]; rfl)
    rw [h] at HF
    clear h
    go_enter Tryd.func61, Tryd.ntmps61
    go_wp2_with (go_at_call 96; (with_reducible refine (HF.out _ HE.out HO.out).mono ?_); rintro e w1 ⟨rfl, hb1⟩; have HB1 := Lib.hid (HB0.out.trans (hb1.mono HB0.out.size)); clear hb1)
    go_ret2
    exact ⟨ret_strb E1.out.symm E2.out.symm, HB1.out⟩
  · have E1 := Lib.hid (Pl.textD_hit hk h)
    have E2 := Lib.hid (show Pl.hasD l o = true by unfold Pl.hasD; rw [h]; exact decide_eq_true (by omega))
    rw [h] at HF
    clear h
    have hki : (k : Int) < (l.length : Int) := by omega
    have hk0 : (0 : Int) ≤ (k : Int) := by omega
    have hkn : ¬ (k : Int) < 0 := by omega
    obtain ⟨b, off, u, rfl, c1, c2, c3⟩ := ent_at HE.out k hk
    clear c3
    generalize l[k] = p at c1 c2 E1
    obtain ⟨pl, pt⟩ := p
    replace c2 : (w.alloc (.cells #[.slice (some ⟨b, off, none⟩) l.length cap] 49)).cell? ⟨b, off + k * 2 + 1, none⟩ = some (.string pt) := c2
    have C2 := Lib.hid c2
    clear c1 c2
    go_enter Tryd.func61, Tryd.ntmps61
    go_wp2_with (go_at_call 96; (with_reducible refine (HF.out _ HE.out HO.out).mono ?_); rintro e w1 ⟨rfl, hb1⟩; have HB1 := Lib.hid (HB0.out.trans (hb1.mono HB0.out.size)); have d1 := keepcT hb1 C2.out; have d2 := keepcT hb1 HC.out; clear hb1)
    go_ret2
    exact ⟨ret_strb E1.out.symm E2.out.symm, HB1.out⟩
set_option maxRecDepth 20000 in
set_option maxHeartbeats 1600000 in
theorem lookup_any (v vo : Value) (l : List Ent) (o : List Int) (w : World) (hr : Ents w v l) (hl : l.length ≤ 1048576) (hs : ∀ p ∈ l, p.1.length ≤ 1048576) (ho : Rows w vo o.length 1 (ints o)) :
    Calls Tryd.prog 64 #[.agg #[v], vo] w fun e w' => e = .returned (.tuple #[.string (Pl.textD l o), .bool (Pl.hasD l o)]) ∧ Below w.heap.size w w' := by
  have HB0 := Lib.hid (Joins.below_alloc1 w (.cells #[v] 49))
  have HE := Lib.hid (hr.keep HB0.out)
  have HO := Lib.hid (ho.keep HB0.out)
  obtain ⟨a, cap, rfl, _, _⟩ := ent_form hr
  obtain ⟨ao, co, rfl, _, _⟩ := rows_form ho
  have HC := Lib.hid (show (w.alloc (.cells #[.slice a l.length cap] 49)).cell? ⟨w.heap.size, 0, none⟩ = some (.slice a l.length cap) by simp [go_sem])
  have HF := Lib.hid (fun W h1 h2 => find_any (.slice a l.length cap) (.slice ao o.length co) l o W h1 hl hs h2)
  clear hr hs ho
  rcases Pl.atD_cases l o with h | ⟨k, hk, h, _⟩
  · have E1 := Lib.hid (Pl.textD_none h)
    have E2 := Lib.hid (show Pl.hasD l o = false by unfold Pl.hasD; rw [h]; rfl)
    rw [h] at HF
    clear h
    go_enter Tryd.func64, Tryd.ntmps64
    go_wp2_with (go_at_call 100; (with_reducible refine (HF.out _ HE.out HO.out).mono ?_); rintro e w1 ⟨rfl, hb1⟩; have HB1 := Lib.hid (HB0.out.trans (hb1.mono HB0.out.size)); clear hb1)
    go_ret2
    exact ⟨ret_strb E1.out.symm E2.out.symm, HB1.out⟩
  · have E1 := Lib.hid (Pl.textD_hit hk h)
    have E2 := Lib.hid (show Pl.hasD l o = true by unfold Pl.hasD; rw [h]; exact decide_eq_true (by omega))
    rw [h] at HF
    clear h
    have hki : (k : Int) < (l.length : Int) := by omega
    have hk0 : (0 : Int) ≤ (k : Int) := by omega
    have hkn : ¬ (k : Int) < 0 := by omega
    obtain ⟨b, off, u, rfl, c1, c2, c3⟩ := ent_at HE.out k hk
    clear c3
    generalize l[k] = p at c1 c2 E1
    obtain ⟨pl, pt⟩ := p
    replace c2 : (w.alloc (.cells #[.slice (some ⟨b, off, none⟩) l.length cap] 49)).cell? ⟨b, off + k * 2 + 1, none⟩ = some (.string pt) := c2
    have C2 := Lib.hid c2
    clear c1 c2
    go_enter Tryd.func64, Tryd.ntmps64
    go_wp2_with (go_at_call 100; (with_reducible refine (HF.out _ HE.out HO.out).mono ?_); rintro e w1 ⟨rfl, hb1⟩; have HB1 := Lib.hid (HB0.out.trans (hb1.mono HB0.out.size)); have d1 := keepcT hb1 C2.out; have d2 := keepcT hb1 HC.out; clear hb1)
    go_ret2
    exact ⟨ret_strb E1.out.symm E2.out.symm, HB1.out⟩

set_option maxRecDepth 20000 in
set_option maxHeartbeats 1600000 in
theorem specLookup_any (v vo : Value) (l : List Ent) (o : List Int) (w : World) (hr : Ents w v l) (hl : l.length ≤ 1048576) (hs : ∀ p ∈ l, p.1.length ≤ 1048576 ∧ p.2.size ≤ 1048576) (ho : Rows w vo o.length 1 (ints o)) :
    Calls Tryd.prog 23 #[.agg #[v], vo] w fun e w' => e = .returned (.tuple #[.string (lookOut l o), .bool (lookOk l o)]) ∧ Below w.heap.size w w' := by
  have HB0 := Lib.hid (Joins.below_alloc1 w (.cells #[v] 49))
  have HE := Lib.hid (hr.keep HB0.out)
  have HO := Lib.hid (ho.keep HB0.out)
  obtain ⟨a, cap, rfl, _, _⟩ := ent_form hr
  obtain ⟨ao, co, rfl, _, _⟩ := rows_form ho
  have HC := Lib.hid (show (w.alloc (.cells #[.slice a l.length cap] 49)).cell? ⟨w.heap.size, 0, none⟩ = some (.slice a l.length cap) by simp [go_sem])
  have HG := Lib.hid (fun W h1 => l6Good_any (.slice a l.length cap) l W h1 hl hs)
  have HF := Lib.hid (fun W h1 h2 => l6Find_any (.slice a l.length cap) (.slice ao o.length co) l o W h1 hl (fun p hp => (hs p hp).1) h2)
  have E1 := Lib.hid (show lookOut l o = if Pl.dictOk l then Pl.textD l o else ⟨#[]⟩ from rfl)
  have E2 := Lib.hid (show lookOk l o = (Pl.dictOk l && Pl.hasD l o) from rfl)
  clear hr hs ho
  generalize Pl.dictOk l = g at HG E1 E2
  generalize Pl.textD l o = tx at HF E1
  generalize Pl.hasD l o = y at HF E2
  cases g
  all_goals
    go_enter Tryd.func23, Tryd.ntmps23
    go_wp2_with (first
      | (go_at_call 60; (with_reducible refine (HG.out _ HE.out).mono ?_); rintro e w1 ⟨rfl, hb1⟩; have HB1 := Lib.hid (HB0.out.trans (hb1.mono HB0.out.size)); have d2 := keepcT hb1 HC.out; have HE1 := Lib.hid (HE.out.keep hb1); have HO1 := Lib.hid (HO.out.keep hb1); clear hb1)
      | (go_at_call 61; (with_reducible refine (HF.out _ HE1.out HO1.out).mono ?_); rintro e w2 ⟨rfl, hb2⟩; have HB2 := Lib.hid (HB1.out.trans (hb2.mono HB1.out.size)); clear hb2))
    go_ret2
    exact ⟨ret_strb (by rw [E1.out]; rfl) (by rw [E2.out]; rfl), by first | exact HB2.out | exact HB1.out⟩

set_option maxRecDepth 20000 in
set_option maxHeartbeats 1600000 in
theorem Lookup_any (v vo : Value) (l : List Ent) (o : List Int) (w : World) (hr : Ents w v l) (hl : l.length ≤ 1048576) (hs : ∀ p ∈ l, p.1.length ≤ 1048576 ∧ p.2.size ≤ 1048576) (ho : Rows w vo o.length 1 (ints o)) (hm : ∃ m, w.cell? ⟨0, 0, none⟩ = some (.int .i64 m)) :
    Calls Tryd.prog 26 #[.agg #[v], vo] w fun e w' => e = .returned (.tuple #[.string (lookOut l o), .bool (lookOk l o)]) ∧ Below w.heap.size w w' := by
  have HB0 := Lib.hid (Joins.below_alloc1 w (.cells #[v] 49))
  have HM := Lib.hid (max_keepT hm HB0.out)
  have HE := Lib.hid (hr.keep HB0.out)
  have HO := Lib.hid (ho.keep HB0.out)
  obtain ⟨a, cap, rfl, _, _⟩ := ent_form hr
  obtain ⟨ao, co, rfl, _, _⟩ := rows_form ho
  have HC := Lib.hid (show (w.alloc (.cells #[.slice a l.length cap] 49)).cell? ⟨w.heap.size, 0, none⟩ = some (.slice a l.length cap) by simp [go_sem])
  have HG := Lib.hid (fun W h1 h2 => IsValidDictionary_any (.slice a l.length cap) l W h1 hl hs h2)
  have HF := Lib.hid (fun W h1 h2 => lookup_any (.slice a l.length cap) (.slice ao o.length co) l o W h1 hl (fun p hp => (hs p hp).1) h2)
  have E1 := Lib.hid (show lookOut l o = if Pl.dictOk l then Pl.textD l o else ⟨#[]⟩ from rfl)
  have E2 := Lib.hid (show lookOk l o = (Pl.dictOk l && Pl.hasD l o) from rfl)
  clear hr hs ho hm
  generalize Pl.dictOk l = g at HG E1 E2
  generalize Pl.textD l o = tx at HF E1
  generalize Pl.hasD l o = y at HF E2
  cases g
  all_goals
    go_enter Tryd.func26, Tryd.ntmps26
    go_wp2_with (first
      | (go_at_call 63; (with_reducible refine (HG.out _ HE.out HM.out).mono ?_); rintro e w1 ⟨rfl, hb1⟩; have HB1 := Lib.hid (HB0.out.trans (hb1.mono HB0.out.size)); have d2 := keepcT hb1 HC.out; have HE1 := Lib.hid (HE.out.keep hb1); have HO1 := Lib.hid (HO.out.keep hb1); clear hb1)
      | (go_at_call 64; (with_reducible refine (HF.out _ HE1.out HO1.out).mono ?_); rintro e w2 ⟨rfl, hb2⟩; have HB2 := Lib.hid (HB1.out.trans (hb2.mono HB1.out.size)); clear hb2))
    go_ret2
    exact ⟨ret_strb (by rw [E1.out]; rfl) (by rw [E2.out]; rfl), by first | exact HB2.out | exact HB1.out⟩

end Go.Proofs.YtfjdbchffhbidaaDoor
