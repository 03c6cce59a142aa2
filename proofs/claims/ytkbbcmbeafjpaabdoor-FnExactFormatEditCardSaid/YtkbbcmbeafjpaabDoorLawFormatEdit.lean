/-
  THE CLAIM: the law FnExactFormatEdit returns true for every input, and its arguments read afterwards as before. Conditions: the given row's own (the listed tables of the library read as the program's text lays them; the card ties them).
-/
import Derived.Test.YtkbbcmbeafjpaabDoorFmtE
import Derived.Test.YtkbbcmbeafjpaabDoorTied
import Derived.Test.YtkbbcmbeafjpaabDoorTie
import Derived.Test.YtkbbcmbeafjpaabDoorCards
import Derived.MakeChecks
import Derived.Stop.LaidErr
import Derived.ProofKit
import Derived.OpenShut
import Derived.ShutString
import Derived.ChangeOld
import Derived.Below
import Derived.WalkSmall
import Derived.Test.YtkbbcmbeafjpaabDoorOpen
namespace Go.Proofs.YtkbbcmbeafjpaabDoor
open Go.RowKit

theorem toldFnExactFormatEdit {W : World} (h : laidMetH Tryd.prog Rows.fnExactFormatEditRow.laid W) : Tab10 W := by
  rw [MakeChecks.laidMetH_plain _ _ _ (by kernel_rfl)] at h
  exact Lib.tabIs_of_head (show Tryd.prog.globalNamed "internal/strconv.uint64pow10" = some 3 by kernel_rfl) (by kernel_rfl) Tryd.underlying97 Tryd.underlying49 (by kernel_rfl) (by kernel_rfl)
    (show laidMet Tryd.prog (("internal/strconv.uint64pow10", Lib.tabData .u64 Lib.pow10Tab) :: []) W from h.tail.tail)

theorem szEdit_fit (b : Int) (t : ByteArray) (w : World) (hz : t.size ≤ 1048576) :
    Calls Tryd.prog 14 #[.agg #[.int .i64 b, .string t], .int .i64 1048576] w fun e w' => e = .returned (.int .i64 (1048576 - (t.size : Int))) ∧ Below w.heap.size w w' := by
  have HB := Lib.hid (Joins.below_alloc1 w (.cells #[.int .i64 b, .string t] 34))
  go_enter Tryd.func14, Tryd.ntmps14
  go_wp2
  go_ret
  exact ⟨rfl, HB.out⟩

set_option maxHeartbeats 800000 in
theorem FnExactFormatEdit_walk (b : Int) (t : ByteArray) (w : World) (ht : Tab10 w) (_hb : (Lit.int .i64 b).wf = true) (hs : t.size ≤ maxLen) :
    Calls Tryd.prog 5 #[.agg #[.int .i64 b, .string t]] w fun e w' => e = .returned (.bool true) ∧ Below w.heap.size w w' := by
  have HB0 := Lib.hid (Joins.below_alloc1 w (.cells #[.int .i64 b, .string t] 34))
  have HC := Lib.hid (show (w.alloc (.cells #[.int .i64 b, .string t] 34)).cell? ⟨w.heap.size, 0, none⟩ = some (.int .i64 b) ∧ (w.alloc (.cells #[.int .i64 b, .string t] 34)).cell? ⟨w.heap.size, 1, none⟩ = some (.string t) by constructor <;> simp [go_sem])
  have HT0 := Lib.hid (ht.keep HB0.out)
  by_cases hbig : 1048576 < t.size
  · unfold maxLen at hs
    go_enter Tryd.func5, Tryd.ntmps5
    go_wp2_with ((go_at_call 14; go_in))
    all_goals go_ret
    all_goals exact ⟨rfl, (by repeat (first | with_reducible exact Below.refl _ _ | with_reducible assumption | with_reducible refine Below.alloc ?_ ?_ _ | with_reducible refine Below.setCell ?_ ?_ _ | with_reducible refine Below.drew ?_ | with_reducible refine below_drewN ?_ _ | with_reducible refine Below.trans ?_ (Below.mono (by assumption) ?_) | omega | ((repeat (first | rw [World.size_alloc] | rw [size_setCell] | rw [size_drewN] | rw [size_drew])); omega) | exact Nat.le_refl _ | (dsimp only; omega) | (simp [World.setCell]; omega)))⟩
  have HI := Lib.hid (fun W h => FormatEdit_any b t W hs h)
  have HS := Lib.hid (fun W => specFormatEdit_any b t W hs)
  have HE := Lib.hid (fun W => toEdit_any b t W)
  have HZ := Lib.hid (fun W => szEdit_fit b t W (by omega))
  generalize Pl.feOut b t = q at HI HS
  generalize Pl.validEdit b t = y at HI HS
  unfold maxLen at hs
  have hz1 : ¬ 1048576 - (t.size : Int) < 0 := by omega
  go_enter Tryd.func5, Tryd.ntmps5
  go_wp2_with (first
    | (go_at_call 11; have hx := HT4; (with_reducible refine (HI.out _ HT4.out).mono ?_); rintro e w5 ⟨rfl, hb⟩; have HB5 := Lib.hid (HB4.out.trans (hb.mono HB4.out.size)); clear hx hb)
    | (go_at_call 15; have hx := HB3; (with_reducible refine (HE.out _).mono ?_); rintro e w4 ⟨rfl, hb⟩; have HB4 := Lib.hid (HB3.out.trans (hb.mono HB3.out.size)); have HT4 := Lib.hid (HT3.out.keep hb); clear hx hb HB3 HT3)
    | (go_at_call 12; have hx := HB2; (with_reducible refine (HS.out _).mono ?_); rintro e w3 ⟨rfl, hb⟩; have HB3 := Lib.hid (HB2.out.trans (hb.mono HB2.out.size)); have HT3 := Lib.hid (HT2.out.keep hb); have d03 := keepcF hb d02; have d13 := keepcF hb d12; have lt3 := World.block_lt_of_cell? _ _ d13; clear hx hb HB2 HT2 d02 d12 lt2)
    | (go_at_call 15; have hx := HB1; (with_reducible refine (HE.out _).mono ?_); rintro e w2 ⟨rfl, hb⟩; have HB2 := Lib.hid (HB1.out.trans (hb.mono HB1.out.size)); have HT2 := Lib.hid (HT1.out.keep hb); have d02 := keepcF hb d01; have d12 := keepcF hb d11; have lt2 := World.block_lt_of_cell? _ _ d12; clear hx hb HB1 HT1 d01 d11 lt1)
    | (go_at_call 14; (with_reducible refine (HZ.out _).mono ?_); rintro e w1 ⟨rfl, hb⟩; have HB1 := Lib.hid (HB0.out.trans (hb.mono HB0.out.size)); have HT1 := Lib.hid (HT0.out.keep hb); have d01 := keepcF hb HC.out.1; have d11 := keepcF hb HC.out.2; have lt1 := World.block_lt_of_cell? _ _ d11; clear hb HB0 HT0))
  go_ret
  exact ⟨rfl, HB5.out⟩

namespace fnExactFormatEdit
open Go.ChangeShapes Go.WideShapes Go.ChangeAt Go.RowKit
open Go.ChangeMaps (open_string shut_string)
set_option linter.unusedVariables false
theorem own : ownKnob Tryd.prog.godebug = none := by kernel_rfl
theorem laidOut : laidOutB Tryd.prog = true := by kernel_rfl
set_option maxRecDepth 100000 in
theorem lifted (os : Os) (started : os.Started) (H : Type) (enc : TypeId × Value → H) :
    ReturnsInHanded {} Tryd.checked os 5 .any (fun w args => (Rows.fnExactFormatEditSpec.pre enc Tryd.prog Tryd.f5 Rows.fnExactFormatEditRow.domain false w args ∧ laidMetH Tryd.prog Rows.fnExactFormatEditRow.laid w) ∧ sizedMet enc Tryd.prog Tryd.f5 (OpenSpec.ofChange Rows.fnExactFormatEditSpec) false w args)
      (Rows.fnExactFormatEditSpec.post enc Tryd.prog Tryd.f5 false true false false) := by
  refine returnsInHanded_and_shaped (C := Tryd.checked) (X := fun w _ => laidMetH Tryd.prog Rows.fnExactFormatEditRow.laid w) (fun _ _ _ hh h => h.of_heap hh) own started (by kernel_rfl) Tryd.func5
    (ChangeSpec.witness_shaped (enc := enc) (C := Tryd.checked) (os := os) (X := fun w _ => laidMetH Tryd.prog Rows.fnExactFormatEditRow.laid w) false (World.laidAll Tryd.prog os Rows.fnExactFormatEditRow.laid) #[.agg #[.int .i64 0, .string ⟨#[]⟩]] 8 (World.laidAll_os _ _ _)
      (World.shaped_of_ZipB (by kernel_rfl) (by kernel_rfl)) (by kernel_rfl) (by kernel_rfl) (by kernel_rfl)
      (by rw [MakeChecks.laidMetH_plain _ _ _ (by kernel_rfl)]; exact laidMet_laidAll _ (by kernel_rfl) (by kernel_rfl))) ?_
  intro W base args ds gs before hval0 hW hcnd _ hL hsh _
  have hM := toldFnExactFormatEdit hL
  have hval : ∀ (j : Nat) t v, Tryd.f5.params[j]? = some t → args[j]? = some v → Value.okWide Tryd.prog W .any base t v := hval0
  have hW' := hW
  obtain ⟨p, q, hA0, hV, rfl, hfz, hnd⟩ := hW
  have hA : DataW.TrodAll enc Tryd.prog W 0 (fun _ => true) true Tryd.f5.params.toList args.toList ds p := hA0
  rw [Tryd.params5] at hA hval
  obtain ⟨v0, vs0, d0, ds0, p0, q0, hargs, rfl, rfl, h0, r0⟩ := trodAll_cons hA
  obtain ⟨rfl, rfl, rfl⟩ := trodAll_nil r0
  obtain rfl : args = #[v0] := by cases args; simp_all
  obtain ⟨rfl, rfl⟩ := trodVars_none hV
  have k0 := h0
  have lt0 : ∀ x ∈ p0, x.block < W.heap.size := by obtain ⟨m, hm⟩ := k0; exact DataW.trod_lt m _ _ _ hm
  obtain ⟨cs0, rfl, hl0, m0, hg0⟩ := open_agg Tryd.underlying34 (by kernel_rfl) (by kernel_rfl) (hval 0 34 v0 rfl rfl) h0
  obtain ⟨c0a, y0a, g0a, t0a⟩ := hg0 0 _ rfl
  obtain ⟨a0a, e0a, _, w0a⟩ := DataW.trod_int Tryd.underlying3 t0a
  simp only [List.cons.injEq, and_true] at e0a; subst e0a
  obtain ⟨c0b, y0b, g0b, t0b⟩ := hg0 1 _ rfl
  obtain ⟨a0b, e0b, _, w0b⟩ := DataW.trod_string Tryd.underlying9 t0b
  simp only [List.cons.injEq, and_true] at e0b; subst e0b
  obtain rfl := list2 hl0 g0a g0b
  clear hA0 hval0
  refine (FnExactFormatEdit_walk a0a a0b W hM w0a w0b).mono fun e W' ⟨he, bel⟩ => ?_
  subst he
  exact ⟨_, rfl, _, _, _, [], _, [], hW', trodAll_mk1 (shut_bool Tryd.underlying4 _), (trodAll_cons_mk (Below.trod laidOut (by kernel_rfl) (of_decide_eq_true (by kernel_rfl)) k0 bel lt0) trodAll_mk0), rfl, bel.frame _, fun h => by cases h⟩
theorem over : Rows.FnExactFormatEditSaid :=
  OpenClaim.holds_of_wide 5 Tryd.f5 rfl rfl rfl rfl rfl rfl rfl ⟨rfl, rfl, rfl, rfl, rfl⟩ rfl rfl rfl rfl rfl (by kernel_rfl) Tryd.func5 (by kernel_rfl)
    (of_decide_eq_true (by kernel_rfl)) (by unfold Func.isWrapper; first | (rw [if_pos (by decide +kernel)]; kernel_rfl) | (rw [if_neg (by decide +kernel)]; exact ⟨rfl, rfl⟩))
    (fun os started H enc _ => lifted os started H enc)
theorem proved : Rows.FnExactFormatEditCardSaid :=
  Claim7.holds_tied_plain_at .later [] [.data, .data, .data] true (true, "92744dd433f8901d11ae03c3b037c9a0970137cf27639ae85e02e29dbf5b055b") true over (fun _ h => by cases h) (by kernel_rfl) (fun _ h => by cases h) fnExactFormatEdit_row_tie rfl ⟨rfl, rfl⟩ (by kernel_rfl) rfl
    (fun f fn hf hfn => by
      obtain rfl : f = 5 := Option.some.inj ((show Tryd.prog.funcNamed "loop.example/g00882/laws.FnExactFormatEdit" = some 5 by kernel_rfl).symm.trans hf) |>.symm
      obtain rfl : fn = Tryd.f5 := (Option.some.inj (Tryd.func5.symm.trans hfn)).symm
      exact ⟨by kernel_rfl, fun j t ht => by
        rw [Tryd.params5] at ht
        have hm : t ∈ [34] := by simpa using Array.mem_of_getElem? ht
        have hall : ([34].all fun u => !Tryd.prog.wantsStandIn u) = true := by kernel_rfl
        exact (show Tryd.prog.wantsStandIn t = false by simpa using List.all_eq_true.1 hall t hm)⟩)
    (by kernel_rfl)
#print axioms proved
end fnExactFormatEdit

end Go.Proofs.YtkbbcmbeafjpaabDoor
