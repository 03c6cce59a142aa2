/-
  CONTRACTS: stacks of layers looked at, of the program and of the reference.
  CONTRACT: IsValidStack of the program.
  PLAIN: an outline looked up in a stack of layers.
  CONTRACTS: an outline looked up in a stack of layers, of the program and of the reference.
-/
import Derived.Test.YtdidgaibgkdjoaaGreatDoorBasA
import Derived.Test.YtdidgaibgkdjoaaGreatDoorBasD
import Derived.Test.YtdidgaibgkdjoaaGreatDoorBasB
import Derived.OwnWalk
namespace Go.Proofs.YtdidgaibgkdjoaaGreatDoor
open Go.RowKit

def layOk (p : Lay) : Bool := Pl.dictOk p.1
def stackOk (l : List Lay) : Bool := decide (l.length ≤ 4) && l.all layOk
def LayFit (q : Lay) : Prop := q.1.length ≤ 1048576 ∧ ∀ p ∈ q.1, p.1.length ≤ 1048576 ∧ p.2.size ≤ 1048576

theorem lays_no {l : List Lay} {k : Nat} (hk : k < l.length) (h : layOk l[k] = false) : stackOk l = false := by
  have h2 : l.all layOk = false := by
    rw [List.all_eq_false]
    exact ⟨_, List.getElem_mem hk, by rw [h]; simp⟩
  unfold stackOk
  rw [h2, Bool.and_false]
theorem lays_next {l : List Lay} {k : Nat} (hk : k < l.length) (h : layOk l[k] = true) (ha : (l.take k).all layOk = true) : (l.take (k + 1)).all layOk = true := by
  rw [List.take_add_one, List.getElem?_eq_getElem hk, List.all_append, ha]
  simp [h]
theorem lays_all {l : List Lay} (h4 : l.length ≤ 4) (ha : (l.take l.length).all layOk = true) : stackOk l = true := by
  rw [List.take_length] at ha
  unfold stackOk
  rw [ha, decide_eq_true h4]; rfl

set_option maxRecDepth 20000 in
set_option maxHeartbeats 1600000 in
theorem specIsValidStack_any (v : Value) (l : List Lay) (w : World) (hr : Lays w v l) (hl : l.length ≤ 1048576) (hs : ∀ q ∈ l, LayFit q) :
    Calls Tryz.prog 54 #[.agg #[v]] w fun e w' => e = .returned (.bool (stackOk l)) ∧ Below w.heap.size w w' := by
  have HB0 := Lib.hid (Joins.below_alloc1 w (.cells #[v] 49))
  have HE := Lib.hid (hr.keep HB0.out)
  have HF := Lib.hid hs
  obtain ⟨a, cap, rfl, _, _⟩ := lay_form hr
  have HC := Lib.hid (show (w.alloc (.cells #[.slice a l.length cap] 49)).cell? ⟨w.heap.size, 0, none⟩ = some (.slice a l.length cap) by simp [go_sem])
  clear hr hs
  by_cases h4 : 4 < l.length
  · have E := Lib.hid (show stackOk l = false by unfold stackOk; rw [decide_eq_false (by omega), Bool.false_and])
    have h4' : (4 : Int) < (l.length : Int) := by omega
    go_enter Tryz.func54, Tryz.ntmps54
    go_wp2
    go_ret
    exact ⟨ret_bool E.out.symm, HB0.out⟩
  have h4' : ¬ (4 : Int) < (l.length : Int) := by omega
  go_enter Tryz.func54, Tryz.ntmps54
  go_upto_region 4 with fail
  obtain ⟨W0, hW0⟩ : ∃ W0, W0 = w.alloc (.cells #[.slice a l.length cap] 49) := ⟨_, rfl⟩
  rw [← hW0] at HB0 HE HC ⊢
  have HW := Lib.hid (show w.heap.size ≤ W0.heap.size from HB0.out.size)
  clear hW0
  go_loopw [3] (fun i wr => ∃ k : Nat, k ≤ l.length ∧ i = .int .i64 k ∧ Hid ((l.take k).all layOk = true) ∧ Below W0.heap.size W0 wr) (fun i _ => l.length - (intOf i).toNat)
  case atStart => exact ⟨0, Nat.zero_le _, rfl, Lib.hid rfl, Below.refl _ _⟩
  case round =>
    obtain ⟨k, hk, rfl, HA, hb⟩ := hrel
    have HB := Lib.hid hb; clear hb
    have q0 := keepcT HB.out HC.out
    by_cases hlt : k < l.length
    · obtain ⟨b, off, u, rfl, c1, c2, c3⟩ := lay_at (HE.out.keep HB.out) k hlt
      have hki : (k : Int) < (l.length : Int) := by omega
      have hk0 : (0 : Int) ≤ (k : Int) := by omega
      have hf := HF.out _ (List.getElem_mem hlt)
      obtain ⟨au, cu, rfl, _, _⟩ := ent_form c3
      have HV := Lib.hid (l6Good_any _ _ wr c3 hf.1 hf.2)
      have HL := Lib.hid (show Pl.dictOk (l[k]).1 = layOk l[k] from rfl)
      cases hq : layOk l[k]
      · have E := Lib.hid (lays_no hlt hq)
        rw [HL.out, hq] at HV
        clear HL hq hf c3 HA
        generalize (l[k]).2 = py at c2
        generalize (l[k]).1 = pl at c1 HV
        go_wp2_with (go_at_call 49; (with_reducible refine HV.out.mono ?_); rintro e w1 ⟨rfl, hb1⟩; have HB2 := Lib.hid (HB.out.trans (hb1.mono HB.out.size)); clear hb1)
        go_ret
        exact ⟨ret_bool E.out.symm, HB0.out.trans (HB2.out.mono HW.out)⟩
      · have HA2 := Lib.hid (lays_next hlt hq HA.out)
        rw [HL.out, hq] at HV
        clear HL hq hf c3 HA
        generalize (l[k]).2 = py at c2
        generalize (l[k]).1 = pl at c1 HV
        go_wp2_with (go_at_call 49; (with_reducible refine HV.out.mono ?_); rintro e w1 ⟨rfl, hb1⟩; have HB2 := Lib.hid (HB.out.trans (hb1.mono HB.out.size)); clear hb1)
        go_roundw
        case rel => exact ⟨k + 1, by omega, by go_num, HA2, HB2.out⟩
        case measure => simp [intOf]; omega
    · obtain rfl : k = l.length := by omega
      have E := Lib.hid (lays_all (by omega) HA.out)
      go_wp2
      go_ret
      exact ⟨ret_bool E.out.symm, HB0.out.trans (HB.out.mono HW.out)⟩

set_option maxRecDepth 20000 in
set_option maxHeartbeats 1600000 in
theorem IndexFuncL_any (p : Lay → Bool) (g : Nat) (lb : Array Value) (eg : ∀ args w, (callFunc g args).run Tryz.prog w = .ok (.enter g args) w) (v : Value) (l : List Lay) (w : World) (hr : Lays w v l) (hl : l.length ≤ 1048576)
    (hp : ∀ (W : World) (u : Value) (q : List Ent) (y : Bool), Below w.heap.size w W → Ents W u q → (q, y) ∈ l → Calls Tryz.prog g (#[.agg #[u, .bool y]] ++ lb) W fun e w' => e = .returned (.bool (p (q, y))) ∧ Below W.heap.size W w') :
    Calls Tryz.prog 171 #[v, .func (.func g) #[] lb] w fun e w' => (∃ r : Int, e = .returned (.int .i64 r) ∧ decide (0 ≤ r) = l.any p) ∧ Below w.heap.size w w' := by
  have HP := Lib.hid hp
  have HE := Lib.hid hr
  obtain ⟨a, cap, rfl, _, _⟩ := lay_form hr
  clear hp hr
  go_enter Tryz.func171, Tryz.ntmps171
  go_wp2
  go_loopw [5, 8] (fun _ i wr => ∃ k : Nat, k ≤ l.length ∧ i = .int .i64 k ∧ Hid ((l.take k).any p = false) ∧ Below w.heap.size w wr) (fun _ i _ => l.length - (intOf i).toNat)
  case atStart => exact ⟨0, Nat.zero_le _, rfl, Lib.hid rfl, Below.refl _ _⟩
  case round =>
    obtain ⟨k, hk, rfl, HA, hb⟩ := hrel
    have HB := Lib.hid hb; clear hb
    by_cases hlt : k < l.length
    · obtain ⟨b, off, u, rfl, c1, c2, c3⟩ := lay_at (HE.out.keep HB.out) k hlt
      have hki : (k : Int) < (l.length : Int) := by omega
      have hk0 : (0 : Int) ≤ (k : Int) := by omega
      have HS := Lib.hid (HP.out wr u (l[k]).1 (l[k]).2 HB.out c3 (List.getElem_mem hlt))
      cases hq : p l[k]
      · have HA2 := Lib.hid (any_take_next p l k hlt _ rfl hq HA.out)
        rw [show p ((l[k]).1, (l[k]).2) = false from hq] at HS
        clear HA hq c3
        generalize (l[k]).2 = py at c2 HS
        generalize (l[k]).1 = pl at c1 HS
        go_wp2_with (go_at_fn g; (with_reducible refine HS.out.mono ?_); rintro e w1 ⟨rfl, hb1⟩; have HB2 := Lib.hid (HB.out.trans (hb1.mono HB.out.size)); clear hb1)
        go_roundw
        case rel => exact ⟨k + 1, by omega, by go_num, HA2, HB2.out⟩
        case measure => simp [intOf]; omega
      · have E := Lib.hid (any_take_hit p l k hlt _ rfl hq)
        rw [show p ((l[k]).1, (l[k]).2) = true from hq] at HS
        clear HA hq c3
        generalize (l[k]).2 = py at c2 HS
        generalize (l[k]).1 = pl at c1 HS
        go_wp2_with (go_at_fn g; (with_reducible refine HS.out.mono ?_); rintro e w1 ⟨rfl, hb1⟩; have HB2 := Lib.hid (HB.out.trans (hb1.mono HB.out.size)); clear hb1)
        go_ret
        exact ⟨⟨k, rfl, by rw [E.out]; exact decide_eq_true hk0⟩, HB2.out⟩
    · have E := Lib.hid (any_take_all p l k (by omega) HA.out)
      have hki : ¬ (k : Int) < (l.length : Int) := by omega
      clear HA
      go_wp2
      go_ret
      exact ⟨⟨-1, rfl, by rw [E.out]; rfl⟩, HB.out⟩

set_option maxHeartbeats 1600000 in
theorem ContainsFuncL_any (p : Lay → Bool) (g : Nat) (lb : Array Value) (eg : ∀ args w, (callFunc g args).run Tryz.prog w = .ok (.enter g args) w) (v : Value) (l : List Lay) (w : World) (hr : Lays w v l) (hl : l.length ≤ 1048576)
    (hp : ∀ (W : World) (u : Value) (q : List Ent) (y : Bool), Below w.heap.size w W → Ents W u q → (q, y) ∈ l → Calls Tryz.prog g (#[.agg #[u, .bool y]] ++ lb) W fun e w' => e = .returned (.bool (p (q, y))) ∧ Below W.heap.size W w') :
    Calls Tryz.prog 148 #[v, .func (.func g) #[] lb] w fun e w' => e = .returned (.bool (l.any p)) ∧ Below w.heap.size w w' := by
  have H := Lib.hid (IndexFuncL_any p g lb eg v l w hr hl hp)
  clear hr hp
  go_enter Tryz.func148, Tryz.ntmps148
  go_wp2_with (go_at_call 171; (with_reducible refine H.out.mono ?_); rintro e w' ⟨⟨r, rfl, hd⟩, hb⟩)
  go_ret
  exact ⟨by first | exact ret_bool hd | rfl, hb⟩

end Go.Proofs.YtdidgaibgkdjoaaGreatDoor

namespace Go.Proofs.YtdidgaibgkdjoaaGreatDoor
open Go.RowKit

set_option maxHeartbeats 1600000 in
theorem allL_any (p : Lay → Bool) (g : Nat) (eg : ∀ args w, (callFunc g args).run Tryz.prog w = .ok (.enter g args) w) (v : Value) (l : List Lay) (w : World) (hr : Lays w v l) (hl : l.length ≤ 1048576)
    (hp : ∀ (W : World) (u : Value) (q : List Ent) (y : Bool), Below w.heap.size w W → Ents W u q → (q, y) ∈ l → Calls Tryz.prog g #[.agg #[u, .bool y]] W fun e w' => e = .returned (.bool (p (q, y))) ∧ Below W.heap.size W w') :
    Calls Tryz.prog 105 #[v, .func (.func g) #[] #[]] w fun e w' => e = .returned (.bool (l.all p)) ∧ Below w.heap.size w w' := by
  have HB := Lib.hid (Joins.below_alloc1 w (.cells #[.func (.func g) #[] #[]] 141))
  have H := Lib.hid (ContainsFuncL_any (fun x => !p x) 149 #[.pointer (some ⟨w.heap.size, 0, none⟩)] (enters_of Tryz.func149 (by kernel_rfl) rfl) v l (w.alloc (.cells #[.func (.func g) #[] #[]] 141)) (hr.keep HB.out) hl (fun W u q y hb he hmem => by
    show Calls Tryz.prog 149 #[.agg #[u, .bool y], .pointer (some ⟨w.heap.size, 0, none⟩)] _ _
    have hc0 : (w.alloc (.cells #[.func (.func g) #[] #[]] 141)).cell? ⟨w.heap.size, 0, none⟩ = some (.func (.func g) #[] #[]) := by simp
    have HB1 := Lib.hid (Joins.below_alloc1 W (.cells #[u, .bool y] 96))
    have hc := keepcT HB1.out (keepcT hb hc0)
    have hcall := Lib.hid (hp _ u q y (HB.out.trans ((hb.trans (HB1.out.mono hb.size)).mono HB.out.size)) (he.keep HB1.out) hmem)
    obtain ⟨a, cap, rfl, _, _⟩ := ent_form he
    generalize p (q, y) = z at hcall ⊢
    clear hp hr he hb hc0
    go_enter Tryz.func149, Tryz.ntmps149
    go_wp2_with (go_at_fn g; (with_reducible refine hcall.out.mono ?_); rintro e w1 ⟨rfl, hb1⟩; have HB2 := Lib.hid (HB1.out.trans (hb1.mono HB1.out.size)); clear hb1)
    go_ret
    exact ⟨rfl, HB2.out⟩))
  have hall : Hid ((!l.any fun x => !p x) = l.all p) := Lib.hid (by simp [List.all_eq_not_any_not])
  clear hr hp
  go_enter Tryz.func105, Tryz.ntmps105
  go_wp2_with (go_at_call 148; (with_reducible refine H.out.mono ?_); rintro e w1 ⟨rfl, hb1⟩; have HB2 := Lib.hid (HB.out.trans (hb1.mono HB.out.size)); clear hb1)
  go_ret
  exact ⟨ret_bool hall.out, HB2.out⟩

set_option maxHeartbeats 1600000 in
theorem IsValidStack_any (v : Value) (l : List Lay) (w : World) (hr : Lays w v l) (hl : l.length ≤ 1048576) (hs : ∀ q ∈ l, LayFit q) (hm : ∃ m, w.cell? ⟨0, 0, none⟩ = some (.int .i64 m)) :
    Calls Tryz.prog 57 #[.agg #[v]] w fun e w' => e = .returned (.bool (stackOk l)) ∧ Below w.heap.size w w' := by
  have HB0 := Lib.hid (Joins.below_alloc1 w (.cells #[v] 49))
  have HM0 := Lib.hid (max_keepT hm HB0.out)
  have HA := Lib.hid (allL_any layOk 106 (enters_of Tryz.func106 (by kernel_rfl) rfl) v l (w.alloc (.cells #[v] 49)) (hr.keep HB0.out) hl (fun W u q y hb he hmem => by
    have HM1 := max_keepT HM0.out hb
    have HB1 := Lib.hid (Joins.below_alloc1 W (.cells #[u, .bool y] 96))
    have HV := Lib.hid (IsValidDictionary_any u q _ (he.keep HB1.out) (hs _ hmem).1 (hs _ hmem).2 (max_keepT HM1 HB1.out))
    obtain ⟨a, cap, rfl, _, _⟩ := ent_form he
    have HL := Lib.hid (show Pl.dictOk q = layOk (q, y) from rfl)
    rw [HL.out] at HV
    generalize layOk (q, y) = z at HV
    clear HL HM1 he hb hmem hs hr
    go_enter Tryz.func106, Tryz.ntmps106
    go_wp2_with (go_at_call 47; (with_reducible refine HV.out.mono ?_); rintro e w1 ⟨rfl, hb1⟩; have HB2 := Lib.hid (HB1.out.trans (hb1.mono HB1.out.size)); clear hb1)
    go_ret
    exact ⟨rfl, HB2.out⟩))
  obtain ⟨a, cap, rfl, _, _⟩ := lay_form hr
  clear hr hs hm
  have E := Lib.hid (show stackOk l = (decide (l.length ≤ 4) && l.all layOk) from rfl)
  generalize l.all layOk = z at HA E
  by_cases h4 : l.length ≤ 4
  · have h4' : (l.length : Int) ≤ 4 := by omega
    go_enter Tryz.func57, Tryz.ntmps57
    go_wp2_with (go_at_call 105; (with_reducible refine HA.out.mono ?_); rintro e w1 ⟨rfl, hb1⟩; have HB1 := Lib.hid (HB0.out.trans (hb1.mono HB0.out.size)); clear hb1)
    go_ret
    exact ⟨ret_bool (by rw [E.out, decide_eq_true h4, Bool.true_and]), HB1.out⟩
  · have h4' : ¬ (l.length : Int) ≤ 4 := by omega
    go_enter Tryz.func57, Tryz.ntmps57
    go_wp2
    go_ret
    exact ⟨ret_bool (by rw [E.out, decide_eq_false h4, Bool.false_and]), HB0.out⟩

end Go.Proofs.YtdidgaibgkdjoaaGreatDoor

namespace Go.Proofs.YtdidgaibgkdjoaaGreatDoor
open Go.RowKit

/-- the layer is on and has the outline -/
def layHit (o : List Int) (q : Lay) : Bool := q.2 && Pl.hasD q.1 o
def stFrom (o : List Int) : Nat → List Lay → ByteArray × Int × Bool
  | _, [] => (⟨#[]⟩, 0, false)
  | k, q :: r => if layHit o q = true then (Pl.textD q.1 o, (k : Int), true) else stFrom o (k + 1) r
def stI (o : List Int) : Nat → List Lay → Int
  | _, [] => -1
  | k, q :: r => if layHit o q = true then (k : Int) else stI o (k + 1) r
theorem st_none (o : List Int) (k : Nat) (S : List Lay) (h : S.length ≤ k) : stFrom o k (S.drop k) = (⟨#[]⟩, 0, false) ∧ stI o k (S.drop k) = -1 := by
  rw [List.drop_eq_nil_of_le h]; exact ⟨rfl, rfl⟩
theorem st_hit {o : List Int} {k : Nat} {S : List Lay} (hk : k < S.length) {q : Lay} (hq : S[k] = q) (h : layHit o q = true) : stFrom o k (S.drop k) = (Pl.textD q.1 o, (k : Int), true) ∧ stI o k (S.drop k) = (k : Int) := by
  rw [List.drop_eq_getElem_cons hk, hq]
  unfold stFrom stI
  rw [if_pos h, if_pos h]
  exact ⟨rfl, rfl⟩
theorem st_miss {o : List Int} {k : Nat} {S : List Lay} (hk : k < S.length) {q : Lay} (hq : S[k] = q) (h : layHit o q = false) : stFrom o k (S.drop k) = stFrom o (k + 1) (S.drop (k + 1)) ∧ stI o k (S.drop k) = stI o (k + 1) (S.drop (k + 1)) := by
  rw [List.drop_eq_getElem_cons hk, hq]
  constructor
  · conv => lhs; unfold stFrom
    rw [if_neg (by rw [h]; decide)]
  · conv => lhs; unfold stI
    rw [if_neg (by rw [h]; decide)]
theorem st_cases (o : List Int) : ∀ (n : Nat) (l : List Lay), (stI o n l = -1 ∧ stFrom o n l = (⟨#[]⟩, 0, false)) ∨ ∃ k, ∃ h : k < l.length, stI o n l = ((n + k : Nat) : Int) ∧ stFrom o n l = (Pl.textD (l[k]).1 o, ((n + k : Nat) : Int), true) ∧ layHit o l[k] = true
  | _, [] => .inl ⟨rfl, rfl⟩
  | n, q :: r => by
    by_cases h : layHit o q = true
    · refine .inr ⟨0, by simp, ?_, ?_, h⟩
      · unfold stI; rw [if_pos h]; rfl
      · unfold stFrom; rw [if_pos h]; rfl
    · have e1 : stI o n (q :: r) = stI o (n + 1) r := by conv => lhs; unfold stI
                                                         rw [if_neg h]
      have e2 : stFrom o n (q :: r) = stFrom o (n + 1) r := by conv => lhs; unfold stFrom
                                                               rw [if_neg h]
      rw [e1, e2]
      rcases st_cases o (n + 1) r with h' | ⟨k, hk, h1, h2, h3⟩
      · exact .inl h'
      · exact .inr ⟨k + 1, by simpa using hk, by rw [h1]; omega, by rw [h2, show n + 1 + k = n + (k + 1) by omega]; rfl, h3⟩

end Go.Proofs.YtdidgaibgkdjoaaGreatDoor

namespace Go.Proofs.YtdidgaibgkdjoaaGreatDoor
open Go.RowKit

theorem ret_sib {s t : ByteArray} {i j : Int} {x y : Bool} {p : ByteArray × Int × Bool} (h : p = (t, j, y)) (h1 : s = t) (h2 : i = j) (h3 : x = y) : Ending.returned (.tuple #[.string s, .int .i64 i, .bool x]) = .returned (.tuple #[.string p.1, .int .i64 p.2.1, .bool p.2.2]) := by subst h; subst h1; subst h2; subst h3; rfl

set_option maxRecDepth 20000 in
set_option maxHeartbeats 3200000 in
theorem lookupS_any (v vo : Value) (l : List Lay) (o : List Int) (w : World) (hr : Lays w v l) (hl : l.length ≤ 1048576) (hs : ∀ q ∈ l, LayFit q) (ho : Rows w vo o.length 1 (ints o)) :
    Calls Tryz.prog 58 #[.agg #[v], vo] w fun e w' => e = .returned (.tuple #[.string (stFrom o 0 l).1, .int .i64 (stFrom o 0 l).2.1, .bool (stFrom o 0 l).2.2]) ∧ Below w.heap.size w w' := by
  have HB0 := Lib.hid (Joins.below_alloc1 w (.cells #[v] 49))
  have HE := Lib.hid (hr.keep HB0.out)
  have HO := Lib.hid (ho.keep HB0.out)
  have HF := Lib.hid hs
  obtain ⟨a, cap, rfl, _, _⟩ := lay_form hr
  obtain ⟨ao, co, rfl, _, _⟩ := rows_form ho
  have HC := Lib.hid (show (w.alloc (.cells #[.slice a l.length cap] 49)).cell? ⟨w.heap.size, 0, none⟩ = some (.slice a l.length cap) by simp [go_sem])
  clear hr hs ho
  go_enter Tryz.func58, Tryz.ntmps58
  go_upto_region 2 with fail
  obtain ⟨W0, hW0⟩ : ∃ W0, W0 = w.alloc (.cells #[.slice a l.length cap] 49) := ⟨_, rfl⟩
  rw [← hW0] at HB0 HE HC HO ⊢
  have HW := Lib.hid (show w.heap.size ≤ W0.heap.size from HB0.out.size)
  clear hW0
  go_loopw [14] (fun i wr => ∃ k : Nat, k ≤ l.length ∧ i = .int .i64 k ∧ Hid (stFrom o 0 l = stFrom o k (l.drop k)) ∧ Below W0.heap.size W0 wr) (fun i _ => l.length - (intOf i).toNat)
  case atStart => exact ⟨0, Nat.zero_le _, rfl, Lib.hid rfl, Below.refl _ _⟩
  case round =>
    obtain ⟨k, hk, rfl, HA, hb⟩ := hrel
    have HB := Lib.hid hb; clear hb
    by_cases hlt : k < l.length
    · obtain ⟨b, off, u, rfl, c1, c2, c3⟩ := lay_at (HE.out.keep HB.out) k hlt
      have hki : (k : Int) < (l.length : Int) := by omega
      have hk0 : (0 : Int) ≤ (k : Int) := by omega
      have hf := HF.out _ (List.getElem_mem hlt)
      generalize hpk : l[k] = p at c1 c2 c3 hf
      have HPK := Lib.hid hpk; clear hpk
      obtain ⟨pl, py⟩ := p
      obtain ⟨au, cu, rfl, _, _⟩ := ent_form c3
      replace c1 : wr.cell? ⟨b, off + k * 2, none⟩ = some (.slice au pl.length cu) := c1
      replace c2 : wr.cell? ⟨b, off + k * 2 + 1, none⟩ = some (.bool py) := c2
      have HL := Lib.hid (fun W h1 h2 => lookup_any (.slice au pl.length cu) (.slice ao o.length co) pl o W h1 hf.1 (fun p hp => (hf.2 p hp).1) h2)
      have HBa := Joins.below_alloc1 wr (.cells #[.slice au pl.length cu, .bool py] 96)
      have HB1 := Lib.hid (below_on3 HB.out HBa)
      have HEu := Lib.hid (show Ents _ (.slice au pl.length cu) pl from c3.keep HBa)
      have HO1 := Lib.hid (HO.out.keep HB1.out)
      have e1 : (wr.alloc (.cells #[.slice au pl.length cu, .bool py] 96)).cell? ⟨wr.heap.size, 1, none⟩ = some (.bool py) := by simp [go_sem]
      have HMS := Lib.hid (fun h => HA.out.trans (st_miss (o := o) hlt HPK.out h).1)
      have HHT := Lib.hid (fun h => HA.out.trans (st_hit (o := o) hlt HPK.out h).1)
      have HLH := Lib.hid (show layHit o (pl, py) = (py && Pl.hasD pl o) from rfl)
      clear HA HPK hf c3 HBa
      generalize Pl.hasD pl o = y at HL HLH
      dsimp only at HHT
      generalize Pl.textD pl o = tx at HL HHT
      cases py
      · cases y
        · have E := Lib.hid (HMS.out (by rw [HLH.out]; rfl))
          clear HMS HHT HLH
          go_wp2_with (go_at_call 52; (with_reducible refine (HL.out _ HEu.out HO1.out).mono ?_); rintro e w2 ⟨rfl, hb2⟩; have g1 := keepcT hb2 e1; have HB2 := Lib.hid (HB1.out.trans (hb2.mono HB1.out.size)); clear hb2)
          go_roundw
          case rel => exact ⟨k + 1, by omega, by go_num, E, HB2.out⟩
          case measure => simp [intOf]; omega
        · have E := Lib.hid (HMS.out (by rw [HLH.out]; rfl))
          clear HMS HHT HLH
          go_wp2_with (go_at_call 52; (with_reducible refine (HL.out _ HEu.out HO1.out).mono ?_); rintro e w2 ⟨rfl, hb2⟩; have g1 := keepcT hb2 e1; have HB2 := Lib.hid (HB1.out.trans (hb2.mono HB1.out.size)); clear hb2)
          go_roundw
          case rel => exact ⟨k + 1, by omega, by go_num, E, HB2.out⟩
          case measure => simp [intOf]; omega
      · cases y
        · have E := Lib.hid (HMS.out (by rw [HLH.out]; rfl))
          clear HMS HHT HLH
          go_wp2_with (go_at_call 52; (with_reducible refine (HL.out _ HEu.out HO1.out).mono ?_); rintro e w2 ⟨rfl, hb2⟩; have g1 := keepcT hb2 e1; have HB2 := Lib.hid (HB1.out.trans (hb2.mono HB1.out.size)); clear hb2)
          go_roundw
          case rel => exact ⟨k + 1, by omega, by go_num, E, HB2.out⟩
          case measure => simp [intOf]; omega
        · have E := Lib.hid (HHT.out (by rw [HLH.out]; rfl))
          clear HMS HHT HLH
          go_wp2_with (go_at_call 52; (with_reducible refine (HL.out _ HEu.out HO1.out).mono ?_); rintro e w2 ⟨rfl, hb2⟩; have g1 := keepcT hb2 e1; have HB2 := Lib.hid (HB1.out.trans (hb2.mono HB1.out.size)); clear hb2)
          go_ret3
          exact ⟨ret_sib E.out rfl rfl rfl, HB0.out.trans (HB2.out.mono HW.out)⟩
    · obtain rfl : k = l.length := by omega
      have E := Lib.hid (HA.out.trans (st_none o l.length l (Nat.le_refl _)).1)
      clear HA
      go_wp2
      go_ret3
      exact ⟨ret_sib E.out rfl rfl rfl, HB0.out.trans (HB.out.mono HW.out)⟩

set_option maxRecDepth 20000 in
set_option maxHeartbeats 3200000 in
theorem l8Find_any (v vo : Value) (l : List Lay) (o : List Int) (w : World) (hr : Lays w v l) (hl : l.length ≤ 1048576) (hs : ∀ q ∈ l, LayFit q) (ho : Rows w vo o.length 1 (ints o)) :
    Calls Tryz.prog 55 #[.agg #[v], vo] w fun e w' => e = .returned (.int .i64 (stI o 0 l)) ∧ Below w.heap.size w w' := by
  have HB0 := Lib.hid (Joins.below_alloc1 w (.cells #[v] 49))
  have HE := Lib.hid (hr.keep HB0.out)
  have HO := Lib.hid (ho.keep HB0.out)
  have HF := Lib.hid hs
  obtain ⟨a, cap, rfl, _, _⟩ := lay_form hr
  obtain ⟨ao, co, rfl, _, _⟩ := rows_form ho
  have HC := Lib.hid (show (w.alloc (.cells #[.slice a l.length cap] 49)).cell? ⟨w.heap.size, 0, none⟩ = some (.slice a l.length cap) by simp [go_sem])
  clear hr hs ho
  go_enter Tryz.func55, Tryz.ntmps55
  go_upto_region 2 with fail
  obtain ⟨W0, hW0⟩ : ∃ W0, W0 = w.alloc (.cells #[.slice a l.length cap] 49) := ⟨_, rfl⟩
  rw [← hW0] at HB0 HE HC HO ⊢
  have HW := Lib.hid (show w.heap.size ≤ W0.heap.size from HB0.out.size)
  clear hW0
  go_loopw [5] (fun i wr => ∃ k : Nat, k ≤ l.length ∧ i = .int .i64 k ∧ Hid (stI o 0 l = stI o k (l.drop k)) ∧ Below W0.heap.size W0 wr) (fun i _ => l.length - (intOf i).toNat)
  case atStart => exact ⟨0, Nat.zero_le _, rfl, Lib.hid rfl, Below.refl _ _⟩
  case round =>
    obtain ⟨k, hk, rfl, HA, hb⟩ := hrel
    have HB := Lib.hid hb; clear hb
    have q0 := keepcT HB.out HC.out
    by_cases hlt : k < l.length
    · obtain ⟨b, off, u, rfl, c1, c2, c3⟩ := lay_at (HE.out.keep HB.out) k hlt
      have hki : (k : Int) < (l.length : Int) := by omega
      have hk0 : (0 : Int) ≤ (k : Int) := by omega
      have hf := HF.out _ (List.getElem_mem hlt)
      generalize hpk : l[k] = p at c1 c2 c3 hf
      have HPK := Lib.hid hpk; clear hpk
      obtain ⟨pl, py⟩ := p
      obtain ⟨au, cu, rfl, _, _⟩ := ent_form c3
      replace c1 : wr.cell? ⟨b, off + k * 2, none⟩ = some (.slice au pl.length cu) := c1
      replace c2 : wr.cell? ⟨b, off + k * 2 + 1, none⟩ = some (.bool py) := c2
      have HL := Lib.hid (fun W h1 h2 => l6At_any (.slice au pl.length cu) (.slice ao o.length co) pl o W h1 hf.1 (fun p hp => (hf.2 p hp).1) h2)
      have HEu := Lib.hid (show Ents _ (.slice au pl.length cu) pl from c3)
      have HO1 := Lib.hid (HO.out.keep HB.out)
      have HMS := Lib.hid (fun h => HA.out.trans (st_miss (o := o) hlt HPK.out h).2)
      have HHT := Lib.hid (fun h => HA.out.trans (st_hit (o := o) hlt HPK.out h).2)
      have HLH := Lib.hid (show layHit o (pl, py) = (py && Pl.hasD pl o) from rfl)
      have HQ := Lib.hid (Pl.atD_cases pl o)
      clear HA HPK hf c3
      cases py
      · have E := Lib.hid (HMS.out (by rw [HLH.out]; rfl))
        clear HMS HHT HLH HL HQ
        go_wp2
        go_roundw
        case rel => exact ⟨k + 1, by omega, by go_num, E, HB.out⟩
        case measure => simp [intOf]; omega
      · rcases HQ.out with h | ⟨j, hj, h, _⟩
        · have E := Lib.hid (HMS.out (by rw [HLH.out]; unfold Pl.hasD; rw [h]; rfl))
          rw [h] at HL
          clear HMS HHT HLH h HQ
          go_wp2_with (go_at_call 103; (with_reducible refine (HL.out _ HEu.out HO1.out).mono ?_); rintro e w2 ⟨rfl, hb2⟩; have HB2 := Lib.hid (HB.out.trans (hb2.mono HB.out.size)); clear hb2)
          go_roundw
          case rel => exact ⟨k + 1, by omega, by go_num, E, HB2.out⟩
          case measure => simp [intOf]; omega
        · have E := Lib.hid (HHT.out (by rw [HLH.out]; unfold Pl.hasD; rw [h, Bool.true_and]; exact decide_eq_true (by omega)))
          rw [h] at HL
          have hj0 : (0 : Int) ≤ (j : Int) := by omega
          clear HMS HHT HLH h HQ
          go_wp2_with (go_at_call 103; (with_reducible refine (HL.out _ HEu.out HO1.out).mono ?_); rintro e w2 ⟨rfl, hb2⟩; have HB2 := Lib.hid (HB.out.trans (hb2.mono HB.out.size)); clear hb2)
          go_ret
          exact ⟨ret_int E.out.symm, HB0.out.trans (HB2.out.mono HW.out)⟩
    · obtain rfl : k = l.length := by omega
      have E := Lib.hid (HA.out.trans (st_none o l.length l (Nat.le_refl _)).2)
      clear HA
      go_wp2
      go_ret
      exact ⟨ret_int E.out.symm, HB0.out.trans (HB.out.mono HW.out)⟩

def lsOut (l : List Lay) (o : List Int) : ByteArray × Int × Bool := if stackOk l = true then stFrom o 0 l else (⟨#[]⟩, 0, false)

end Go.Proofs.YtdidgaibgkdjoaaGreatDoor
