/-
  CONTRACTS: stacks of layers looked at, of the program and of the reference.
-/
import Derived.Test.YtdidgaibgkdjoaaGreatDoorBasA
import Derived.Test.YtdidgaibgkdjoaaGreatDoorBasD
import Derived.Test.YtdidgaibgkdjoaaGreatDoorBasB
namespace Go.Proofs.YtdidgaibgkdjoaaGreatDoor
open Go.RowKit

def layOk (p : Lay) : Bool := Pl.dictOk p.1
def stackOk (l : List Lay) : Bool := decide (l.length ≤ 4) && l.all layOk
def LayFit (q : Lay) : Prop := q.1.length ≤ 1048576 ∧ ∀ p ∈ q.1, p.1.length ≤ 1048576 ∧ p.2.size ≤ 1048576

theorem lays_no {l : List Lay} {k : Nat} (hk : k < l.length) (h : layOk l[k] = false) : stackOk l = false := by
  have h2 : l.all layOk = false := by
    rw [List.all_eq_false]
    exact ⟨_, List.getElem_mem hk, by rw [h]; simp⟩
  unfold stackOk
  rw [h2, Bool.and_false]
theorem lays_next {l : List Lay} {k : Nat} (hk : k < l.length) (h : layOk l[k] = true) (ha : (l.take k).all layOk = true) : (l.take (k + 1)).all layOk = true := by
  rw [List.take_add_one, List.getElem?_eq_getElem hk, List.all_append, ha]
  simp [h]
theorem lays_all {l : List Lay} (h4 : l.length ≤ 4) (ha : (l.take l.length).all layOk = true) : stackOk l = true := by
  rw [List.take_length] at ha
  unfold stackOk
  rw [ha, decide_eq_true h4]; rfl

set_option maxRecDepth 20000 in
set_option maxHeartbeats 1600000 in
theorem specIsValidStack_any (v : Value) (l : List Lay) (w : World) (hr : Lays w v l) (hl : l.length ≤ 1048576) (hs : ∀ q ∈ l, LayFit q) :
    Calls Tryz.prog 54 #[.agg #[v]] w fun e w' => e = .returned (.bool (stackOk l)) ∧ Below w.heap.size w w' := by
  have HB0 := Lib.hid (Joins.below_alloc1 w (.cells #[v] 49))
  have HE := Lib.hid (hr.keep HB0.out)
  have HF := Lib.hid hs
  obtain ⟨a, cap, rfl, _, _⟩ := lay_form hr
  have HC := Lib.hid (show (w.alloc (.cells #[.slice a l.length cap] 49)).cell? ⟨w.heap.size, 0, none⟩ = some (.slice a l.length cap) by simp [go_sem])
  clear hr hs
  by_cases h4 : 4 < l.length
  · have E := Lib.hid (show stackOk l = false by unfold stackOk; rw [decide_eq_false (by omega), Bool.false_and])
    have h4' : (4 : Int) < (l.length : Int) := by omega
    go_enter Tryz.func54, Tryz.ntmps54
    go_wp2
    go_ret
    exact ⟨ret_bool E.out.symm, HB0.out⟩
  have h4' : ¬ (4 : Int) < (l.length : Int) := by omega
  go_enter Tryz.func54, Tryz.ntmps54
  go_upto_region 4 with fail
  obtain ⟨W0, hW0⟩ : ∃ W0, W0 = w.alloc (.cells #[.slice a l.length cap] 49) := ⟨_, rfl⟩
  rw [← hW0] at HB0 HE HC ⊢
  have HW := Lib.hid (show w.heap.size ≤ W0.heap.size from HB0.out.size)
  clear hW0
  go_loopw [3] (fun i wr => ∃ k : Nat, k ≤ l.length ∧ i = .int .i64 k ∧ Hid ((l.take k).all layOk = true) ∧ Below W0.heap.size W0 wr) (fun i _ => l.length - (intOf i).toNat)
  case atStart => exact ⟨0, Nat.zero_le _, rfl, Lib.hid rfl, Below.refl _ _⟩
  case round =>
    obtain ⟨k, hk, rfl, HA, hb⟩ := hrel
    have HB := Lib.hid hb; clear hb
    have q0 := keepcT HB.out HC.out
    by_cases hlt : k < l.length
    · obtain ⟨b, off, u, rfl, c1, c2, c3⟩ := lay_at (HE.out.keep HB.out) k hlt
      have hki : (k : Int) < (l.length : Int) := by omega
      have hk0 : (0 : Int) ≤ (k : Int) := by omega
      have hf := HF.out _ (List.getElem_mem hlt)
      obtain ⟨au, cu, rfl, _, _⟩ := ent_form c3
      have HV := Lib.hid (l6Good_any _ _ wr c3 hf.1 hf.2)
      have HL := Lib.hid (show Pl.dictOk (l[k]).1 = layOk l[k] from rfl)
      cases hq : layOk l[k]
      · have E := Lib.hid (lays_no hlt hq)
        rw [HL.out, hq] at HV
        clear HL hq hf c3 HA
        generalize (l[k]).2 = py at c2
        generalize (l[k]).1 = pl at c1 HV
        go_wp2_with (go_at_call 49; (with_reducible refine HV.out.mono ?_); rintro e w1 ⟨rfl, hb1⟩; have HB2 := Lib.hid (HB.out.trans (hb1.mono HB.out.size)); clear hb1)
        go_ret
        exact ⟨ret_bool E.out.symm, HB0.out.trans (HB2.out.mono HW.out)⟩
      · have HA2 := Lib.hid (lays_next hlt hq HA.out)
        rw [HL.out, hq] at HV
        clear HL hq hf c3 HA
        generalize (l[k]).2 = py at c2
        generalize (l[k]).1 = pl at c1 HV
        go_wp2_with (go_at_call 49; (with_reducible refine HV.out.mono ?_); rintro e w1 ⟨rfl, hb1⟩; have HB2 := Lib.hid (HB.out.trans (hb1.mono HB.out.size)); clear hb1)
        go_roundw
        case rel => exact ⟨k + 1, by omega, by go_num, HA2, HB2.out⟩
        case measure => simp [intOf]; omega
    · obtain rfl : k = l.length := by omega
      have E := Lib.hid (lays_all (by omega) HA.out)
      go_wp2
      go_ret
      exact ⟨ret_bool E.out.symm, HB0.out.trans (HB.out.mono HW.out)⟩

set_option maxRecDepth 20000 in
set_option maxHeartbeats 1600000 in
theorem IndexFuncL_any (p : Lay → Bool) (g : Nat) (lb : Array Value) (eg : ∀ args w, (callFunc g args).run Tryz.prog w = .ok (.enter g args) w) (v : Value) (l : List Lay) (w : World) (hr : Lays w v l) (hl : l.length ≤ 1048576)
    (hp : ∀ (W : World) (u : Value) (q : List Ent) (y : Bool), Below w.heap.size w W → Ents W u q → (q, y) ∈ l → Calls Tryz.prog g (#[.agg #[u, .bool y]] ++ lb) W fun e w' => e = .returned (.bool (p (q, y))) ∧ Below W.heap.size W w') :
    Calls Tryz.prog 171 #[v, .func (.func g) #[] lb] w fun e w' => (∃ r : Int, e = .returned (.int .i64 r) ∧ decide (0 ≤ r) = l.any p) ∧ Below w.heap.size w w' := by
  have HP := Lib.hid hp
  have HE := Lib.hid hr
  obtain ⟨a, cap, rfl, _, _⟩ := lay_form hr
  clear hp hr
  go_enter Tryz.func171, Tryz.ntmps171
  go_wp2
  go_loopw [5, 8] (fun _ i wr => ∃ k : Nat, k ≤ l.length ∧ i = .int .i64 k ∧ Hid ((l.take k).any p = false) ∧ Below w.heap.size w wr) (fun _ i _ => l.length - (intOf i).toNat)
  case atStart => exact ⟨0, Nat.zero_le _, rfl, Lib.hid rfl, Below.refl _ _⟩
  case round =>
    obtain ⟨k, hk, rfl, HA, hb⟩ := hrel
    have HB := Lib.hid hb; clear hb
    by_cases hlt : k < l.length
    · obtain ⟨b, off, u, rfl, c1, c2, c3⟩ := lay_at (HE.out.keep HB.out) k hlt
      have hki : (k : Int) < (l.length : Int) := by omega
      have hk0 : (0 : Int) ≤ (k : Int) := by omega
      have HS := Lib.hid (HP.out wr u (l[k]).1 (l[k]).2 HB.out c3 (List.getElem_mem hlt))
      cases hq : p l[k]
      · have HA2 := Lib.hid (any_take_next p l k hlt _ rfl hq HA.out)
        rw [show p ((l[k]).1, (l[k]).2) = false from hq] at HS
        clear HA hq c3
        generalize (l[k]).2 = py at c2 HS
        generalize (l[k]).1 = pl at c1 HS
        go_wp2_with (go_at_fn g; (with_reducible refine HS.out.mono ?_); rintro e w1 ⟨rfl, hb1⟩; have HB2 := Lib.hid (HB.out.trans (hb1.mono HB.out.size)); clear hb1)
        go_roundw
        case rel => exact ⟨k + 1, by omega, by go_num, HA2, HB2.out⟩
        case measure => simp [intOf]; omega
      · have E := Lib.hid (any_take_hit p l k hlt _ rfl hq)
        rw [show p ((l[k]).1, (l[k]).2) = true from hq] at HS
        clear HA hq c3
        generalize (l[k]).2 = py at c2 HS
        generalize (l[k]).1 = pl at c1 HS
        go_wp2_with (go_at_fn g; (with_reducible refine HS.out.mono ?_); rintro e w1 ⟨rfl, hb1⟩; have HB2 := Lib.hid (HB.out.trans (hb1.mono HB.out.size)); clear hb1)
        go_ret
        exact ⟨⟨k, rfl, by rw [E.out]; exact decide_eq_true hk0⟩, HB2.out⟩
    · have E := Lib.hid (any_take_all p l k (by omega) HA.out)
      have hki : ¬ (k : Int) < (l.length : Int) := by omega
      clear HA
      go_wp2
      go_ret
      exact ⟨⟨-1, rfl, by rw [E.out]; rfl⟩, HB.out⟩

set_option maxHeartbeats 1600000 in
theorem ContainsFuncL_any (p : Lay → Bool) (g : Nat) (lb : Array Value) (eg : ∀ args w, (callFunc g args).run Tryz.prog w = .ok (.enter g args) w) (v : Value) (l : List Lay) (w : World) (hr : Lays w v l) (hl : l.length ≤ 1048576)
    (hp : ∀ (W : World) (u : Value) (q : List Ent) (y : Bool), Below w.heap.size w W → Ents W u q → (q, y) ∈ l → Calls Tryz.prog g (#[.agg #[u, .bool y]] ++ lb) W fun e w' => e = .returned (.bool (p (q, y))) ∧ Below W.heap.size W w') :
    Calls Tryz.prog 148 #[v, .func (.func g) #[] lb] w fun e w' => e = .returned (.bool (l.any p)) ∧ Below w.heap.size w w' := by
  have H := Lib.hid (IndexFuncL_any p g lb eg v l w hr hl hp)
  clear hr hp
  go_enter Tryz.func148, Tryz.ntmps148
  go_wp2_with (go_at_call 171; (with_reducible refine H.out.mono ?_); rintro e w' ⟨⟨r, rfl, hd⟩, hb⟩)
  go_ret
  exact ⟨by first | exact ret_bool hd | rfl, hb⟩

end Go.Proofs.YtdidgaibgkdjoaaGreatDoor
