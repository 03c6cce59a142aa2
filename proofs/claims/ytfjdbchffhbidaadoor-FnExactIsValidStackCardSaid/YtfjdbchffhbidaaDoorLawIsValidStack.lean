/-
  THE CLAIM: the law FnExactIsValidStack returns true for every input, and its argument reads afterwards as before. Conditions: the given row's own (the listed tables of the library read as the program's text lays them; the card ties them).
-/
import Derived.Test.YtfjdbchffhbidaaDoorStackI
import Derived.Test.YtfjdbchffhbidaaDoorLayE
import Derived.Test.YtfjdbchffhbidaaDoorTied
import Derived.Test.YtfjdbchffhbidaaDoorTie
import Derived.Test.YtfjdbchffhbidaaDoorCards
import Derived.ProofKit
import Derived.OpenShut
import Derived.ShutString
import Derived.ChangeOld
import Derived.Below
import Derived.WalkSmall
import Derived.Test.YtfjdbchffhbidaaDoorOpen
namespace Go.Proofs.YtfjdbchffhbidaaDoor
open Go.RowKit

theorem fit_lay {l : List Lay} (h : LaysFit l) : ∀ q ∈ l, LayFit q := fun q hq => h.2 q hq

set_option maxRecDepth 20000 in
set_option maxHeartbeats 3200000 in
theorem FnExactIsValidStack_walk (v : Value) (l : List Lay) (W : World) (hm : ∃ m, W.cell? ⟨0, 0, none⟩ = some (.int .i64 m)) (hd : ∃ u, v = .agg #[u] ∧ Lays W u l ∧ (∀ q ∈ l, ∀ p ∈ q.1, EntWf p)) :
    Calls Tryd.prog 7 #[v] W fun e W' => e = .returned (.bool true) ∧ Below W.heap.size W W' := by
  obtain ⟨v, rfl, hr, hsz⟩ := hd
  have HR := Lib.hid hr
  have HB0 := Lib.hid (Joins.below_alloc1 W (.cells #[v] 57))
  have HM0 := Lib.hid (max_keepT hm HB0.out)
  obtain ⟨a, cap, rfl, _, _⟩ := lay_form hr
  have HC := Lib.hid (show (W.alloc (.cells #[.slice a l.length cap] 57)).cell? ⟨W.heap.size, 0, none⟩ = some (.slice a l.length cap) by simp [go_sem])
  have HS := Lib.hid (fun W h1 => szStack_any (.slice a l.length cap) l 1048576 W h1 hsz (by omega) (by omega))
  unfold SzLeft at HS
  have HE0 := Lib.hid (HR.out.keep HB0.out)
  clear hr hm hsz
  go_enter Tryd.func7, Tryd.ntmps7
  go_upto_region 3 with (go_at_call 29; (with_reducible refine (HS.out _ HE0.out).mono ?_); rintro e w1 ⟨⟨r, rfl, h1, h2, h3⟩, hb1⟩; have HB1 := Lib.hid (HB0.out.trans (hb1.mono HB0.out.size)); have d1 := keepcT hb1 HC.out; have HM1 := Lib.hid (max_keepT HM0.out hb1); clear hb1)
  by_cases hneg : r < 0
  · go_wp2
    go_ret
    exact ⟨rfl, HB1.out⟩
  have HF := Lib.hid (h3 (by omega))
  have HT := Lib.hid (fun W h => toStack_any (.slice a l.length cap) l W h HF.out)
  unfold RetStack at HT
  have HSL := Lib.hid (fun V W h1 => specIsValidStack_any V l W h1 HF.out.1 (fit_lay HF.out))
  have HIL := Lib.hid (fun V W h1 h2 => IsValidStack_any V l W h1 HF.out.1 (fit_lay HF.out) h2)
  generalize stackOk l = y at HSL HIL
  have HE1 := Lib.hid (HR.out.keep HB1.out)
  clear h1 h2 h3 HC HS HE0 HM0
  go_upto_region 10 with (first
    | (go_at_call 32; (with_reducible refine (HIL.out _ _ E5b.out HM5b.out).mono ?_); rintro e w7 ⟨rfl, hb7⟩; have HB7 := Lib.hid (HB5b.out.trans (hb7.mono HB5b.out.size)); have d7 := keepcT hb7 d5b.out; have c7 := keepcT hb7 c5.out; have E7 := Lib.hid (E5b.out.keep hb7); clear hb7)
    | (go_at_call 31; have hx := HB4; (with_reducible refine (HT.out _ (HR.out.keep HB4.out)).mono ?_); rintro e w5 ⟨v5, rfl, hown5, hb5⟩; have HB5 := Lib.hid (HB4.out.trans (hb5.mono HB4.out.size)); have E5 := hown5.lays; obtain ⟨a5, cap5, rfl, _, _⟩ := lay_form E5; have d5 := keepcT hb5 d4; have HM5 := max_keepT HM4.out hb5; have HBb := Joins.below_alloc1 w5 (.cells #[.slice a5 l.length cap5] 62); have HB5b := Lib.hid (below_on3 HB5.out HBb); have d5b := Lib.hid (keepcT HBb d5); have E5b := Lib.hid (E5.keep HBb); have HM5b := Lib.hid (max_keepT HM5 HBb); have c5 := Lib.hid (show (w5.alloc (.cells #[.slice a5 l.length cap5] 62)).cell? ⟨w5.heap.size, 0, none⟩ = some (.slice a5 l.length cap5) by simp [go_sem]); clear hx hown5 hb5 HBb E5 HM5)
    | (go_at_call 30; (with_reducible refine (HSL.out _ _ E2.out).mono ?_); rintro e w4 ⟨rfl, hb4⟩; have HB4 := Lib.hid (HB2.out.trans (hb4.mono HB2.out.size)); have d4 := keepcT hb4 d2; have HM4 := Lib.hid (max_keepT HM2.out hb4); clear hb4)
    | (go_at_call 31; (with_reducible refine (HT.out _ HE1.out).mono ?_); rintro e w2 ⟨v2, rfl, hown2, hb2⟩; have E2 := Lib.hid hown2.lays; obtain ⟨a2, cap2, rfl, _, _⟩ := lay_form E2.out; have HB2 := Lib.hid (HB1.out.trans (hb2.mono HB1.out.size)); have d2 := keepcT hb2 d1; have HM2 := Lib.hid (max_keepT HM1.out hb2); clear hown2 hb2))
  have E8 := Lib.hid (show Lays w7.drew (.slice a l.length cap) l from Lays.drew (HR.out.keep HB7.out) 1)
  have HQ := Lib.hid (fun V V' W h1 h2 => eqStack_same V V' l W h1 h2 HF.out)
  go_region_held3 (fun w' => w'.cell? ⟨w5.heap.size, 0, none⟩ = some (.slice a5 l.length cap5) ∧ w'.cell? ⟨W.heap.size, 0, none⟩ = some (.slice a l.length cap)) (first | exact ⟨c9, d9⟩ | exact ⟨c8, d8⟩ | exact ⟨c7, d7⟩) (first
    | (go_at_call 31; (with_reducible refine (HT.out _ E8.out).mono ?_); rintro e w8 ⟨v8, rfl, hown8, hb8⟩; have G8 := Lib.hid hown8.lays; obtain ⟨a8, cap8, rfl, _, _⟩ := lay_form G8.out; have HB8 := Lib.hid ((below_drew1 HB7.out).trans (hb8.mono HB7.out.size)); have F8 := Lib.hid ((show Lays w7.drew (.slice a5 l.length cap5) l from Lays.drew E7.out 1).keep hb8); have d8 := keepcT hb8 d7; have c8 := keepcT hb8 c7; clear hown8 hb8)
    | (go_at_call 33; (with_reducible refine (HQ.out _ _ _ F8.out G8.out).mono ?_); rintro e w9 ⟨rfl, hb9⟩; have HB9 := Lib.hid (HB8.out.trans (hb9.mono HB8.out.size)); have d9 := keepcT hb9 d8; have c9 := keepcT hb9 c8; clear hb9))
  go_wp2
  go_ret
  exact ⟨rfl, HB9.out⟩

namespace fnExactIsValidStack
open Go.ChangeShapes Go.WideShapes Go.ChangeAt Go.RowKit
open Go.ChangeMaps (open_string shut_string)
set_option linter.unusedVariables false
theorem own : ownKnob Tryd.prog.godebug = none := by kernel_rfl
theorem laidOut : laidOutB Tryd.prog = true := by kernel_rfl
set_option maxRecDepth 100000 in
theorem lifted (os : Os) (started : os.Started) (H : Type) (enc : TypeId × Value → H) :
    ReturnsInHanded {} Tryd.checked os 7 .any (fun w args => (Rows.fnExactIsValidStackSpec.pre enc Tryd.prog Tryd.f7 Rows.fnExactIsValidStackRow.domain false w args ∧ laidMetH Tryd.prog Rows.fnExactIsValidStackRow.laid w) ∧ sizedMet enc Tryd.prog Tryd.f7 (OpenSpec.ofChange Rows.fnExactIsValidStackSpec) false w args)
      (Rows.fnExactIsValidStackSpec.post enc Tryd.prog Tryd.f7 false true false false) := by
  refine returnsInHanded_and_shaped (C := Tryd.checked) (X := fun w _ => laidMetH Tryd.prog Rows.fnExactIsValidStackRow.laid w) (fun _ _ _ hh h => h.of_heap hh) own started (by kernel_rfl) Tryd.func7
    (ChangeSpec.witness_shaped (enc := enc) (C := Tryd.checked) (os := os) (X := fun w _ => laidMetH Tryd.prog Rows.fnExactIsValidStackRow.laid w) false (World.laidAll Tryd.prog os Rows.fnExactIsValidStackRow.laid) #[.agg #[.slice none 0 0]] 8 (World.laidAll_os _ _ _)
      (World.shaped_of_ZipB (by kernel_rfl) (by kernel_rfl)) (by kernel_rfl) (by kernel_rfl) (by kernel_rfl)
      (by rw [MakeChecks.laidMetH_plain _ _ _ (by kernel_rfl)]; exact laidMet_laidAll _ (by kernel_rfl) (by kernel_rfl))) ?_
  intro W base args ds gs before hval0 hW hcnd _ hL hsh _
  have hM := Go.Proofs.cell_of_shapedOpen_int (g := 0) (zero := #[.int .i64 0]) (t := 3) hsh (of_decide_eq_true (by kernel_rfl)) (by kernel_rfl) rfl (by kernel_rfl) (by kernel_rfl) Tryd.underlying3
  have hval : ∀ (j : Nat) t v, Tryd.f7.params[j]? = some t → args[j]? = some v → Value.okWide Tryd.prog W .any base t v := hval0
  have hW' := hW
  obtain ⟨p, q, hA0, hV, rfl, hfz, hnd⟩ := hW
  have hA : DataW.TrodAll enc Tryd.prog W 0 (fun _ => true) true Tryd.f7.params.toList args.toList ds p := hA0
  rw [Tryd.params7] at hA hval
  obtain ⟨v0, vs0, d0, ds0, p0, q0, hargs, rfl, rfl, h0, r0⟩ := trodAll_cons hA
  obtain ⟨rfl, rfl, rfl⟩ := trodAll_nil r0
  obtain rfl : args = #[v0] := by cases args; simp_all
  obtain ⟨rfl, rfl⟩ := trodVars_none hV
  have k0 := h0
  have lt0 : ∀ x ∈ p0, x.block < W.heap.size := by obtain ⟨m, hm⟩ := k0; exact DataW.trod_lt m _ _ _ hm
  obtain ⟨a0, w0⟩ := (fun W v hv h => open_stackR (w := W) (v := v) Tryd.underlying57 (by kernel_rfl) (by kernel_rfl) rfl Tryd.underlying55 Tryd.underlying139 (by kernel_rfl) rfl rfl (by kernel_rfl) (by kernel_rfl) Tryd.underlying43 Tryd.underlying4 rfl rfl (by kernel_rfl) Tryd.underlying41 Tryd.underlying130 (by kernel_rfl) rfl rfl (by kernel_rfl) (by kernel_rfl) Tryd.underlying44 Tryd.underlying3 (by kernel_rfl) Tryd.underlying9 hv h) W v0 (hval 0 57 v0 rfl rfl) h0
  clear hA0 hval0
  refine (FnExactIsValidStack_walk v0 a0 W hM w0).mono fun e W' ⟨he, bel⟩ => ?_
  subst he
  exact ⟨_, rfl, _, _, _, [], _, [], hW', trodAll_mk1 (shut_bool Tryd.underlying4 _), (trodAll_cons_mk (Below.trod laidOut (by kernel_rfl) (of_decide_eq_true (by kernel_rfl)) k0 bel lt0) trodAll_mk0), rfl, bel.frame _, fun h => by cases h⟩
theorem over : Rows.FnExactIsValidStackSaid :=
  OpenClaim.holds_of_wide 7 Tryd.f7 rfl rfl rfl rfl rfl rfl rfl ⟨rfl, rfl, rfl, rfl, rfl⟩ rfl rfl rfl rfl rfl (by kernel_rfl) Tryd.func7 (by kernel_rfl)
    (of_decide_eq_true (by kernel_rfl)) (by unfold Func.isWrapper; first | (rw [if_pos (by decide +kernel)]; kernel_rfl) | (rw [if_neg (by decide +kernel)]; exact ⟨rfl, rfl⟩))
    (fun os started H enc _ => lifted os started H enc)
theorem proved : Rows.FnExactIsValidStackCardSaid :=
  Claim7.holds_tied_plain_at .later [] [.data, .pinned] true (true, "1f8f0c85c300649092abfbcb60f9a6f3196fdad1edea147c06f8110ae969081f") true over (fun _ h => by cases h) (by kernel_rfl) (fun _ h => by cases h) fnExactIsValidStack_row_tie rfl ⟨rfl, rfl⟩ (by kernel_rfl) rfl
    (fun f fn hf hfn => by
      obtain rfl : f = 7 := Option.some.inj ((show Tryd.prog.funcNamed "loop.example/g00882/laws.FnExactIsValidStack" = some 7 by kernel_rfl).symm.trans hf) |>.symm
      obtain rfl : fn = Tryd.f7 := (Option.some.inj (Tryd.func7.symm.trans hfn)).symm
      exact ⟨by kernel_rfl, fun j t ht => by
        rw [Tryd.params7] at ht
        have hm : t ∈ [57] := by simpa using Array.mem_of_getElem? ht
        have hall : ([57].all fun u => !Tryd.prog.wantsStandIn u) = true := by kernel_rfl
        exact (show Tryd.prog.wantsStandIn t = false by simpa using List.all_eq_true.1 hall t hm)⟩)
    (by kernel_rfl)
#print axioms proved
end fnExactIsValidStack

end Go.Proofs.YtfjdbchffhbidaaDoor
