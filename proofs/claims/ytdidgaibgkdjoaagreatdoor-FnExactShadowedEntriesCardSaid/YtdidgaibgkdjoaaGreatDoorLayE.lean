/-
  CONTRACTS: the laws' own equality of stacks of layers.
-/
import Derived.Test.YtdidgaibgkdjoaaGreatDoorLayT
namespace Go.Proofs.YtdidgaibgkdjoaaGreatDoor
open Go.RowKit

set_option maxHeartbeats 1600000 in
theorem eqLayer_same (u u' : Value) (l : List Ent) (y : Bool) (w : World) (hr : Ents w u l) (hr' : Ents w u' l) (hf : EntsFit l) :
    Calls Tryz.prog 107 #[.agg #[u, .bool y], .agg #[u', .bool y]] w fun e w' => e = .returned (.bool true) ∧ Below w.heap.size w w' := by
  have HB := Lib.hid (Joins.below_alloc2 w (.cells #[u, .bool y] 96) (.cells #[u', .bool y] 96))
  have HE := Lib.hid (eqDictionary_same u u' l _ (hr.keep HB.out) (hr'.keep HB.out) hf)
  obtain ⟨a, cap, rfl, _, _⟩ := ent_form hr
  obtain ⟨a', cap', rfl, _, _⟩ := ent_form hr'
  have C1 := Lib.hid (show ((w.alloc (.cells #[.slice a l.length cap, .bool y] 96)).alloc (.cells #[.slice a' l.length cap', .bool y] 96)).cell? ⟨w.heap.size, 1, none⟩ = some (.bool y) by simp [go_sem])
  have C2 := Lib.hid (show ((w.alloc (.cells #[.slice a l.length cap, .bool y] 96)).alloc (.cells #[.slice a' l.length cap', .bool y] 96)).cell? ⟨w.heap.size + 1, 1, none⟩ = some (.bool y) by simp [go_sem])
  clear hr hr' hf
  go_enter Tryz.func107, Tryz.ntmps107
  go_wp2_with (go_at_call 36; (with_reducible refine HE.out.mono ?_); rintro e w1 ⟨rfl, hb1⟩; have d1 := keepcE hb1 C1.out; have d2 := keepcE hb1 C2.out; have HB1 := Lib.hid (HB.out.trans (hb1.mono HB.out.size)); clear hb1)
  go_ret
  exact ⟨rfl, HB1.out⟩

set_option maxRecDepth 20000 in
set_option maxHeartbeats 1600000 in
theorem eqLayerS_same (v v' : Value) (l : List Lay) (w : World) (hr : Lays w v l) (hr' : Lays w v' l) (hf : LaysFit l) :
    Calls Tryz.prog 60 #[v, v'] w fun e w' => e = .returned (.bool true) ∧ Below w.heap.size w w' := by
  have HE := Lib.hid hr; have HE' := Lib.hid hr'; have HF := Lib.hid hf
  have hl := hf.1
  obtain ⟨a, cap, rfl, _, _⟩ := lay_form hr
  obtain ⟨a', cap', rfl, _, _⟩ := lay_form hr'
  clear hr hr' hf
  go_enter Tryz.func60, Tryz.ntmps60
  go_wp2
  go_loopw [5] (fun i wr => ∃ k : Nat, k ≤ l.length ∧ i = .int .i64 k ∧ Below w.heap.size w wr) (fun i _ => l.length - (intOf i).toNat)
  case atStart => exact ⟨0, Nat.zero_le _, rfl, Below.refl _ _⟩
  case round =>
    obtain ⟨k, hk, rfl, hb⟩ := hrel
    have HB := Lib.hid hb; clear hb
    by_cases hlt : k < l.length
    · obtain ⟨b, off, u, rfl, c1, c2, c3⟩ := lay_at (HE.out.keep HB.out) k hlt
      obtain ⟨b', off', u', rfl, d1, d2, d3⟩ := lay_at (HE'.out.keep HB.out) k hlt
      have hs := HF.out.at k hlt
      have hki : (k : Int) < (l.length : Int) := by omega
      have hk0 : (0 : Int) ≤ (k : Int) := by omega
      generalize l[k] = p at c1 c2 c3 d1 d2 d3 hs
      obtain ⟨pl, py⟩ := p
      have HQ := Lib.hid (eqLayer_same u u' pl py wr.drew c3 d3 hs)
      obtain ⟨au, cu, rfl, _, _⟩ := ent_form c3
      obtain ⟨au', cu', rfl, _, _⟩ := ent_form d3
      clear c3 d3 hs
      replace c2 : wr.cell? ⟨b, off + k * 2 + 1, none⟩ = some (.bool py) := c2
      replace d2 : wr.cell? ⟨b', off' + k * 2 + 1, none⟩ = some (.bool py) := d2
      replace c1 : wr.cell? ⟨b, off + k * 2, none⟩ = some (.slice au pl.length cu) := c1
      replace d1 : wr.cell? ⟨b', off' + k * 2, none⟩ = some (.slice au' pl.length cu') := d1
      go_upto_region 6 with fail
      go_region_held3 (fun w' => w'.cell? ⟨b, off + k * 2, none⟩ = some (.slice au pl.length cu) ∧ w'.cell? ⟨b, off + k * 2 + 1, none⟩ = some (.bool py) ∧ w'.cell? ⟨b', off' + k * 2, none⟩ = some (.slice au' pl.length cu') ∧ w'.cell? ⟨b', off' + k * 2 + 1, none⟩ = some (.bool py)) (first | exact ⟨e1, e2, e3, e4⟩ | exact ⟨c1, c2, d1, d2⟩) (first
        | (go_at_call 107; (with_reducible refine HQ.out.mono ?_); rintro e w1 ⟨rfl, hb1⟩; have e1 := keepcE hb1 c1; have e2 := keepcE hb1 c2; have e3 := keepcE hb1 d1; have e4 := keepcE hb1 d2))
      go_wp2
      go_roundw
      case rel => exact ⟨k + 1, by omega, by go_num, (below_drew1 HB.out).trans (hb1.mono HB.out.size)⟩
      case measure => simp [intOf]; omega
    · go_wp2
      go_ret
      exact ⟨rfl, HB.out⟩

set_option maxHeartbeats 800000 in
theorem eqStack_same (v v' : Value) (l : List Lay) (w : World) (hr : Lays w v l) (hr' : Lays w v' l) (hf : LaysFit l) :
    Calls Tryz.prog 21 #[.agg #[v], .agg #[v']] w fun e w' => e = .returned (.bool true) ∧ Below w.heap.size w w' := by
  have HB := Lib.hid (Joins.below_alloc2 w (.cells #[v] 49) (.cells #[v'] 49))
  have HE := Lib.hid (eqLayerS_same v v' l _ (hr.keep HB.out) (hr'.keep HB.out) hf)
  obtain ⟨a, cap, rfl, _, _⟩ := lay_form hr
  obtain ⟨a', cap', rfl, _, _⟩ := lay_form hr'
  clear hr hr' hf
  go_enter Tryz.func21, Tryz.ntmps21
  go_wp2_with (go_at_call 60; (with_reducible refine HE.out.mono ?_); rintro e w1 ⟨rfl, hb1⟩; have HB1 := Lib.hid (HB.out.trans (hb1.mono HB.out.size)); clear hb1)
  go_ret
  exact ⟨rfl, HB1.out⟩

end Go.Proofs.YtdidgaibgkdjoaaGreatDoor
