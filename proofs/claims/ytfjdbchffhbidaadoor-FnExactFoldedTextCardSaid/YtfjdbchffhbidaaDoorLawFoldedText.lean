/-
  THE CLAIM: the law FnExactFoldedText returns true for every input, and its arguments read afterwards as before. Conditions: the given row's own (the listed tables of the library read as the program's text lays them; the card ties them).
-/
import Derived.Test.YtfjdbchffhbidaaDoorFText
import Derived.Test.YtfjdbchffhbidaaDoorTied
import Derived.Test.YtfjdbchffhbidaaDoorTie
import Derived.Test.YtfjdbchffhbidaaDoorCards
import Derived.ProofKit
import Derived.OpenShut
import Derived.ShutString
import Derived.ChangeOld
import Derived.Below
import Derived.WalkSmall
import Derived.Test.YtfjdbchffhbidaaDoorOpen
namespace Go.Proofs.YtfjdbchffhbidaaDoor
open Go.RowKit

set_option maxHeartbeats 1600000 in
theorem FnExactFoldedText_walk (t : ByteArray) (k : Int) (u : ByteArray) (W : World) (hm : ∃ m, W.cell? ⟨0, 0, none⟩ = some (.int .i64 m)) (ht : t.size ≤ maxLen) (_hk : (Lit.int .i64 k).wf = true) (hu : u.size ≤ maxLen) :
    Calls Tryd.prog 3 #[.string t, .agg #[.int .i64 k, .string u]] W fun e w' => e = .returned (.bool true) ∧ Below W.heap.size W w' := by
  have HB0 := Lib.hid (Joins.below_alloc1 W (.cells #[.int .i64 k, .string u] 23))
  have HM0 := Lib.hid (max_keep hm HB0.out)
  clear hm
  have ca := Lib.hid (show (W.alloc (.cells #[.int .i64 k, .string u] 23)).cell? ⟨W.heap.size, 0, none⟩ = some (.int .i64 k) by simp)
  have cb := Lib.hid (show (W.alloc (.cells #[.int .i64 k, .string u] 23)).cell? ⟨W.heap.size, 1, none⟩ = some (.string u) by simp)
  have hu' := hu
  unfold maxLen at ht
  by_cases hz : 1048576 < t.size
  · go_enter Tryd.func3, Tryd.ntmps3
    go_wp2
    go_ret
    exact ⟨rfl, HB0.out⟩
  by_cases hz2 : (1048576 : Int) < (u.size : Int)
  · go_enter Tryd.func3, Tryd.ntmps3
    go_wp2_with (go_at_call 10; refine (szFold_any _ _ _ _ hu' (by omega) (by omega)).mono ?_; rintro e w1 ⟨he, hb1⟩; rw [if_pos hz2] at he; subst he; have HB1 := Lib.hid (HB0.out.trans (hb1.mono HB0.out.size)); clear hb1)
    go_ret
    exact ⟨rfl, HB1.out⟩
  have HS := Lib.hid (fun w => specFoldedText_any t k u w (by omega) (by omega))
  have HI := Lib.hid (fun w h => FoldedText_any t k u w (by omega) (by omega) h)
  generalize Pl.foldedOut k t u = o at HS HI
  generalize Pl.foldedOk k t u = y at HS HI
  cases y
  all_goals
    go_enter Tryd.func3, Tryd.ntmps3
    go_wp2_with (first
      | (go_at_call 10; refine (szFold_any _ _ _ _ hu' (by omega) (by omega)).mono ?_; rintro e w1 ⟨he, hb1⟩; rw [if_neg hz2] at he; subst he; have HB1 := Lib.hid (HB0.out.trans (hb1.mono HB0.out.size)); have HM1 := Lib.hid (max_keep HM0.out hb1); have d0 := keepcT hb1 ca.out; have d1 := keepcT hb1 cb.out; clear hb1)
      | (go_at_call 13; (with_reducible refine (HI.out _ HM4.out).mono ?_); rintro e w5 ⟨rfl, hb5⟩; have HB5 := Lib.hid (HB4.out.trans (hb5.mono HB4.out.size)); clear hb5)
      | (go_at_call 12; have hx := HM3; refine (toFold_any _ _ _).mono ?_; rintro e w4 ⟨rfl, hb4⟩; have HB4 := Lib.hid (HB3.out.trans (hb4.mono HB3.out.size)); have HM4 := Lib.hid (max_keep HM3.out hb4); clear hx hb4)
      | (go_at_call 11; (with_reducible refine (HS.out _).mono ?_); rintro e w3 ⟨rfl, hb3⟩; have HB3 := Lib.hid (HB2.out.trans (hb3.mono HB2.out.size)); have HM3 := Lib.hid (max_keep HM2.out hb3); have f0 := keepcT hb3 e0; have f1 := keepcT hb3 e1; clear hb3)
      | (go_at_call 12; refine (toFold_any _ _ _).mono ?_; rintro e w2 ⟨rfl, hb2⟩; have HB2 := Lib.hid (HB1.out.trans (hb2.mono HB1.out.size)); have HM2 := Lib.hid (max_keep HM1.out hb2); have e0 := keepcT hb2 d0; have e1 := keepcT hb2 d1; clear hb2))
    go_ret
    exact ⟨rfl, HB5.out⟩

namespace fnExactFoldedText
open Go.ChangeShapes Go.WideShapes Go.ChangeAt Go.RowKit
open Go.ChangeMaps (open_string shut_string)
set_option linter.unusedVariables false
theorem own : ownKnob Tryd.prog.godebug = none := by kernel_rfl
theorem laidOut : laidOutB Tryd.prog = true := by kernel_rfl
set_option maxRecDepth 100000 in
theorem lifted (os : Os) (started : os.Started) (H : Type) (enc : TypeId × Value → H) :
    ReturnsInHanded {} Tryd.checked os 3 .any (fun w args => (Rows.fnExactFoldedTextSpec.pre enc Tryd.prog Tryd.f3 Rows.fnExactFoldedTextRow.domain false w args ∧ laidMetH Tryd.prog Rows.fnExactFoldedTextRow.laid w) ∧ sizedMet enc Tryd.prog Tryd.f3 (OpenSpec.ofChange Rows.fnExactFoldedTextSpec) false w args)
      (Rows.fnExactFoldedTextSpec.post enc Tryd.prog Tryd.f3 false true false false) := by
  refine returnsInHanded_and_shaped (C := Tryd.checked) (X := fun w _ => laidMetH Tryd.prog Rows.fnExactFoldedTextRow.laid w) (fun _ _ _ hh h => h.of_heap hh) own started (by kernel_rfl) Tryd.func3
    (ChangeSpec.witness_shaped (enc := enc) (C := Tryd.checked) (os := os) (X := fun w _ => laidMetH Tryd.prog Rows.fnExactFoldedTextRow.laid w) false (World.laidAll Tryd.prog os Rows.fnExactFoldedTextRow.laid) #[.string ⟨#[]⟩, .agg #[.int .i64 0, .string ⟨#[]⟩]] 8 (World.laidAll_os _ _ _)
      (World.shaped_of_ZipB (by kernel_rfl) (by kernel_rfl)) (by kernel_rfl) (by kernel_rfl) (by kernel_rfl)
      (by rw [MakeChecks.laidMetH_plain _ _ _ (by kernel_rfl)]; exact laidMet_laidAll _ (by kernel_rfl) (by kernel_rfl))) ?_
  intro W base args ds gs before hval0 hW hcnd _ hL hsh _
  have hM := Go.Proofs.cell_of_shapedOpen_int (g := 0) (zero := #[.int .i64 0]) (t := 3) hsh (of_decide_eq_true (by kernel_rfl)) (by kernel_rfl) rfl (by kernel_rfl) (by kernel_rfl) Tryd.underlying3
  have hval : ∀ (j : Nat) t v, Tryd.f3.params[j]? = some t → args[j]? = some v → Value.okWide Tryd.prog W .any base t v := hval0
  have hW' := hW
  obtain ⟨p, q, hA0, hV, rfl, hfz, hnd⟩ := hW
  have hA : DataW.TrodAll enc Tryd.prog W 0 (fun _ => true) true Tryd.f3.params.toList args.toList ds p := hA0
  rw [Tryd.params3] at hA hval
  obtain ⟨v0, vs0, d0, ds0, p0, q0, hargs, rfl, rfl, h0, r0⟩ := trodAll_cons hA
  obtain ⟨v1, vs1, d1, ds1, p1, q1, rfl, rfl, rfl, h1, r1⟩ := trodAll_cons r0
  obtain ⟨rfl, rfl, rfl⟩ := trodAll_nil r1
  obtain rfl : args = #[v0, v1] := by cases args; simp_all
  obtain ⟨rfl, rfl⟩ := trodVars_none hV
  have k0 := h0
  have lt0 : ∀ x ∈ p0, x.block < W.heap.size := by obtain ⟨m, hm⟩ := k0; exact DataW.trod_lt m _ _ _ hm
  obtain ⟨a0, rfl, rfl, rfl, w0⟩ := open_string Tryd.underlying9 (hval 0 9 v0 rfl rfl) h0
  have k1 := h1
  have lt1 : ∀ x ∈ p1, x.block < W.heap.size := by obtain ⟨m, hm⟩ := k1; exact DataW.trod_lt m _ _ _ hm
  obtain ⟨cs1, rfl, hl1, m1, hg1⟩ := open_agg Tryd.underlying23 (by kernel_rfl) (by kernel_rfl) (hval 1 23 v1 rfl rfl) h1
  obtain ⟨c1a, y1a, g1a, t1a⟩ := hg1 0 _ rfl
  obtain ⟨a1a, e1a, _, w1a⟩ := DataW.trod_int Tryd.underlying3 t1a
  simp only [List.cons.injEq, and_true] at e1a; subst e1a
  obtain ⟨c1b, y1b, g1b, t1b⟩ := hg1 1 _ rfl
  obtain ⟨a1b, e1b, _, w1b⟩ := DataW.trod_string Tryd.underlying9 t1b
  simp only [List.cons.injEq, and_true] at e1b; subst e1b
  obtain rfl := list2 hl1 g1a g1b
  clear hA0 hval0
  refine (FnExactFoldedText_walk a0 a1a a1b W hM w0 w1a w1b).mono fun e W' ⟨he, bel⟩ => ?_
  subst he
  exact ⟨_, rfl, _, _, _, [], _, [], hW', trodAll_mk1 (shut_bool Tryd.underlying4 _), (trodAll_cons_mk (Below.trod laidOut (by kernel_rfl) (of_decide_eq_true (by kernel_rfl)) k0 bel lt0) (trodAll_cons_mk (Below.trod laidOut (by kernel_rfl) (of_decide_eq_true (by kernel_rfl)) k1 bel lt1) trodAll_mk0)), rfl, bel.frame _, fun h => by cases h⟩
theorem over : Rows.FnExactFoldedTextSaid :=
  OpenClaim.holds_of_wide 3 Tryd.f3 rfl rfl rfl rfl rfl rfl rfl ⟨rfl, rfl, rfl, rfl, rfl⟩ rfl rfl rfl rfl rfl (by kernel_rfl) Tryd.func3 (by kernel_rfl)
    (of_decide_eq_true (by kernel_rfl)) (by unfold Func.isWrapper; first | (rw [if_pos (by decide +kernel)]; kernel_rfl) | (rw [if_neg (by decide +kernel)]; exact ⟨rfl, rfl⟩))
    (fun os started H enc _ => lifted os started H enc)
theorem proved : Rows.FnExactFoldedTextCardSaid :=
  Claim7.holds_tied_plain_at .later [] [.data, .pinned] true (true, "1f8f0c85c300649092abfbcb60f9a6f3196fdad1edea147c06f8110ae969081f") true over (fun _ h => by cases h) (by kernel_rfl) (fun _ h => by cases h) fnExactFoldedText_row_tie rfl ⟨rfl, rfl⟩ (by kernel_rfl) rfl
    (fun f fn hf hfn => by
      obtain rfl : f = 3 := Option.some.inj ((show Tryd.prog.funcNamed "loop.example/g00882/laws.FnExactFoldedText" = some 3 by kernel_rfl).symm.trans hf) |>.symm
      obtain rfl : fn = Tryd.f3 := (Option.some.inj (Tryd.func3.symm.trans hfn)).symm
      exact ⟨by kernel_rfl, fun j t ht => by
        rw [Tryd.params3] at ht
        have hm : t ∈ [9, 23] := by simpa using Array.mem_of_getElem? ht
        have hall : ([9, 23].all fun u => !Tryd.prog.wantsStandIn u) = true := by kernel_rfl
        exact (show Tryd.prog.wantsStandIn t = false by simpa using List.all_eq_true.1 hall t hm)⟩)
    (by kernel_rfl)
#print axioms proved
end fnExactFoldedText

end Go.Proofs.YtfjdbchffhbidaaDoor
