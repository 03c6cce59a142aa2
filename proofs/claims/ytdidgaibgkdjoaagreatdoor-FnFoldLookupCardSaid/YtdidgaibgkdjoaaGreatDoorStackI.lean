/-
  CONTRACT: IsValidStack of the program.
-/
import Derived.Test.YtdidgaibgkdjoaaGreatDoorStackV
namespace Go.Proofs.YtdidgaibgkdjoaaGreatDoor
open Go.RowKit

set_option maxHeartbeats 1600000 in
theorem allL_any (p : Lay → Bool) (g : Nat) (eg : ∀ args w, (callFunc g args).run Tryz.prog w = .ok (.enter g args) w) (v : Value) (l : List Lay) (w : World) (hr : Lays w v l) (hl : l.length ≤ 1048576)
    (hp : ∀ (W : World) (u : Value) (q : List Ent) (y : Bool), Below w.heap.size w W → Ents W u q → (q, y) ∈ l → Calls Tryz.prog g #[.agg #[u, .bool y]] W fun e w' => e = .returned (.bool (p (q, y))) ∧ Below W.heap.size W w') :
    Calls Tryz.prog 105 #[v, .func (.func g) #[] #[]] w fun e w' => e = .returned (.bool (l.all p)) ∧ Below w.heap.size w w' := by
  have HB := Lib.hid (Joins.below_alloc1 w (.cells #[.func (.func g) #[] #[]] 141))
  have H := Lib.hid (ContainsFuncL_any (fun x => !p x) 149 #[.pointer (some ⟨w.heap.size, 0, none⟩)] (enters_of Tryz.func149 (by kernel_rfl) rfl) v l (w.alloc (.cells #[.func (.func g) #[] #[]] 141)) (hr.keep HB.out) hl (fun W u q y hb he hmem => by
    show Calls Tryz.prog 149 #[.agg #[u, .bool y], .pointer (some ⟨w.heap.size, 0, none⟩)] _ _
    have hc0 : (w.alloc (.cells #[.func (.func g) #[] #[]] 141)).cell? ⟨w.heap.size, 0, none⟩ = some (.func (.func g) #[] #[]) := by simp
    have HB1 := Lib.hid (Joins.below_alloc1 W (.cells #[u, .bool y] 96))
    have hc := keepcT HB1.out (keepcT hb hc0)
    have hcall := Lib.hid (hp _ u q y (HB.out.trans ((hb.trans (HB1.out.mono hb.size)).mono HB.out.size)) (he.keep HB1.out) hmem)
    obtain ⟨a, cap, rfl, _, _⟩ := ent_form he
    generalize p (q, y) = z at hcall ⊢
    clear hp hr he hb hc0
    go_enter Tryz.func149, Tryz.ntmps149
    go_wp2_with (go_at_fn g; (with_reducible refine hcall.out.mono ?_); rintro e w1 ⟨rfl, hb1⟩; have HB2 := Lib.hid (HB1.out.trans (hb1.mono HB1.out.size)); clear hb1)
    go_ret
    exact ⟨rfl, HB2.out⟩))
  have hall : Hid ((!l.any fun x => !p x) = l.all p) := Lib.hid (by simp [List.all_eq_not_any_not])
  clear hr hp
  go_enter Tryz.func105, Tryz.ntmps105
  go_wp2_with (go_at_call 148; (with_reducible refine H.out.mono ?_); rintro e w1 ⟨rfl, hb1⟩; have HB2 := Lib.hid (HB.out.trans (hb1.mono HB.out.size)); clear hb1)
  go_ret
  exact ⟨ret_bool hall.out, HB2.out⟩

set_option maxHeartbeats 1600000 in
theorem IsValidStack_any (v : Value) (l : List Lay) (w : World) (hr : Lays w v l) (hl : l.length ≤ 1048576) (hs : ∀ q ∈ l, LayFit q) (hm : ∃ m, w.cell? ⟨0, 0, none⟩ = some (.int .i64 m)) :
    Calls Tryz.prog 57 #[.agg #[v]] w fun e w' => e = .returned (.bool (stackOk l)) ∧ Below w.heap.size w w' := by
  have HB0 := Lib.hid (Joins.below_alloc1 w (.cells #[v] 49))
  have HM0 := Lib.hid (max_keepT hm HB0.out)
  have HA := Lib.hid (allL_any layOk 106 (enters_of Tryz.func106 (by kernel_rfl) rfl) v l (w.alloc (.cells #[v] 49)) (hr.keep HB0.out) hl (fun W u q y hb he hmem => by
    have HM1 := max_keepT HM0.out hb
    have HB1 := Lib.hid (Joins.below_alloc1 W (.cells #[u, .bool y] 96))
    have HV := Lib.hid (IsValidDictionary_any u q _ (he.keep HB1.out) (hs _ hmem).1 (hs _ hmem).2 (max_keepT HM1 HB1.out))
    obtain ⟨a, cap, rfl, _, _⟩ := ent_form he
    have HL := Lib.hid (show Pl.dictOk q = layOk (q, y) from rfl)
    rw [HL.out] at HV
    generalize layOk (q, y) = z at HV
    clear HL HM1 he hb hmem hs hr
    go_enter Tryz.func106, Tryz.ntmps106
    go_wp2_with (go_at_call 47; (with_reducible refine HV.out.mono ?_); rintro e w1 ⟨rfl, hb1⟩; have HB2 := Lib.hid (HB1.out.trans (hb1.mono HB1.out.size)); clear hb1)
    go_ret
    exact ⟨rfl, HB2.out⟩))
  obtain ⟨a, cap, rfl, _, _⟩ := lay_form hr
  clear hr hs hm
  have E := Lib.hid (show stackOk l = (decide (l.length ≤ 4) && l.all layOk) from rfl)
  generalize l.all layOk = z at HA E
  by_cases h4 : l.length ≤ 4
  · have h4' : (l.length : Int) ≤ 4 := by omega
    go_enter Tryz.func57, Tryz.ntmps57
    go_wp2_with (go_at_call 105; (with_reducible refine HA.out.mono ?_); rintro e w1 ⟨rfl, hb1⟩; have HB1 := Lib.hid (HB0.out.trans (hb1.mono HB0.out.size)); clear hb1)
    go_ret
    exact ⟨ret_bool (by rw [E.out, decide_eq_true h4, Bool.true_and]), HB1.out⟩
  · have h4' : ¬ (l.length : Int) ≤ 4 := by omega
    go_enter Tryz.func57, Tryz.ntmps57
    go_wp2
    go_ret
    exact ⟨ret_bool (by rw [E.out, decide_eq_false h4, Bool.false_and]), HB0.out⟩

end Go.Proofs.YtdidgaibgkdjoaaGreatDoor
