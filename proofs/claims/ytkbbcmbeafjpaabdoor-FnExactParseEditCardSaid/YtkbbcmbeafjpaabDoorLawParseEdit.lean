/-
  THE CLAIM: the law FnExactParseEdit returns true for every input, and its argument reads afterwards as before. Conditions: the given row's own (the listed tables and errors of the library lie as the program's text lays them; the card ties them).
-/
import Derived.Test.YtkbbcmbeafjpaabDoorPedF
import Derived.Test.YtkbbcmbeafjpaabDoorTied
import Derived.Test.YtkbbcmbeafjpaabDoorTie
import Derived.Test.YtkbbcmbeafjpaabDoorCards
import Derived.Test.YtkbbcmbeafjpaabDoorToldE
import Derived.Test.YtkbbcmbeafjpaabDoorRows
import Derived.ProofKit
import Derived.OpenShut
import Derived.ShutString
import Derived.ChangeOld
import Derived.Below
import Derived.WalkSmall
import Derived.Test.YtkbbcmbeafjpaabDoorOpen
namespace Go.Proofs.YtkbbcmbeafjpaabDoor
open Go.RowKit

theorem toldFnExactParseEdit {W : World} (h : laidMetH Tryd.prog Rows.fnExactParseEditRow.laid W) : Tab10 W ∧ ErrC W := toldE h

set_option maxRecDepth 20000 in
set_option maxHeartbeats 1600000 in
theorem FnExactParseEdit_walk (s : ByteArray) (w : World) (hm : (∃ m, w.cell? ⟨0, 0, none⟩ = some (.int .i64 m)) ∧ Tab10 w ∧ ErrC w) (hs : s.size ≤ maxLen) :
    Calls Tryd.prog 3 #[.string s] w fun e w' => e = .returned (.bool true) ∧ Below w.heap.size w w' := by
  unfold maxLen at hs
  by_cases hbig : 1048576 < s.size
  · have hb1 : (1048576 : Int) < (s.size : Int) := by omega
    go_enter Tryd.func3, Tryd.ntmps3
    go_wp2
    go_ret
    exact ⟨rfl, Below.refl _ _⟩
  have hb1 : ¬ (1048576 : Int) < (s.size : Int) := by omega
  obtain ⟨hm, ht, he⟩ := hm
  have HM := Lib.hid (fun W (hb : Below w.heap.size w W) => show ∃ m, W.cell? ⟨0, 0, none⟩ = some (.int .i64 m) from by obtain ⟨m, hm⟩ := hm; exact ⟨m, keepcF hb hm⟩)
  have HT := Lib.hid ht
  have HE := Lib.hid he
  clear hm ht he
  go_enter Tryd.func3, Tryd.ntmps3
  go_upto_region 4 with (go_at_call 6; refine (specParseEdit_any s _ (by omega)).mono ?_; rintro e w1 ⟨b, t, y, rfl, hp, hb⟩; have HP := Lib.hid hp; have B1 := Lib.hid hb; clear hp hb)
  have B1a := Lib.hid (B1.out.alloc B1.out.size (.cells #[.int .i64 b, .string t] 23))
  go_upto_region 5 with (go_at_call 7; refine (ParseEdit_any s _ (by omega) (HM.out _ B1a.out) (HT.out.keep B1a.out) (HE.out.keep B1a.out)).mono ?_; rintro e w2 ⟨b', t', y', rfl, hp, hb⟩; obtain ⟨e1, e2, e3⟩ := hp.unique HP.out; subst e1; subst e2; subst e3; have B2 := Lib.hid (below_n5 B1a.out hb); have E2 := Lib.hid ((Ed2.new w1 b' t' 23).keep hb); clear hp hb)
  have l1 := E2.out.lt
  obtain ⟨d0, d1, _⟩ := E2.out
  have HQ := Lib.hid (fun W => eqEdit_same b' t' W)
  go_wp2_with (go_at_call 8; (with_reducible refine (HQ.out _).mono ?_); rintro e w3 ⟨rfl, hb⟩; have B3 := Lib.hid (below_n5 (B2.out.alloc B2.out.size (.cells #[.int .i64 b', .string t'] 23)) hb); clear hb)
  go_ret
  exact ⟨rfl, B3.out⟩

namespace fnExactParseEdit
open Go.ChangeShapes Go.WideShapes Go.ChangeAt Go.RowKit
open Go.ChangeMaps (open_string shut_string)
set_option linter.unusedVariables false
theorem own : ownKnob Tryd.prog.godebug = none := by kernel_rfl
theorem laidOut : laidOutB Tryd.prog = true := by kernel_rfl
set_option maxRecDepth 100000 in
theorem lifted (os : Os) (started : os.Started) (H : Type) (enc : TypeId × Value → H) :
    ReturnsInHanded {} Tryd.checked os 3 .any (fun w args => (Rows.fnExactParseEditSpec.pre enc Tryd.prog Tryd.f3 Rows.fnExactParseEditRow.domain false w args ∧ laidMetH Tryd.prog Rows.fnExactParseEditRow.laid w) ∧ sizedMet enc Tryd.prog Tryd.f3 (OpenSpec.ofChange Rows.fnExactParseEditSpec) false w args)
      (Rows.fnExactParseEditSpec.post enc Tryd.prog Tryd.f3 false true false false) := by
  refine returnsInHanded_and_shaped (C := Tryd.checked) (X := fun w _ => laidMetH Tryd.prog Rows.fnExactParseEditRow.laid w) (fun _ _ _ hh h => h.of_heap hh) own started (by kernel_rfl) Tryd.func3
    (ChangeSpec.witness_shaped (enc := enc) (C := Tryd.checked) (os := os) (X := fun w _ => laidMetH Tryd.prog Rows.fnExactParseEditRow.laid w) false (World.laidAll Tryd.prog os Rows.fnExactParseEditRow.laid) #[.string ⟨#[]⟩] 8 (World.laidAll_os _ _ _)
      (World.shaped_of_ZipB (by kernel_rfl) (by kernel_rfl)) (by kernel_rfl) (by kernel_rfl) (by kernel_rfl)
      (by rw [MakeChecks.laidMetH_plain _ _ _ (by kernel_rfl)]; exact laidMet_laidAll _ (by kernel_rfl) (by kernel_rfl))) ?_
  intro W base args ds gs before hval0 hW hcnd _ hL hsh _
  have hM := And.intro (Go.Proofs.cell_of_shapedOpen_int (g := 0) (zero := #[.int .i64 0]) (t := 3) hsh (of_decide_eq_true (by kernel_rfl)) (by kernel_rfl) rfl (by kernel_rfl) (by kernel_rfl) Tryd.underlying3) (toldFnExactParseEdit hL)
  have hval : ∀ (j : Nat) t v, Tryd.f3.params[j]? = some t → args[j]? = some v → Value.okWide Tryd.prog W .any base t v := hval0
  have hW' := hW
  obtain ⟨p, q, hA0, hV, rfl, hfz, hnd⟩ := hW
  have hA : DataW.TrodAll enc Tryd.prog W 0 (fun _ => true) true Tryd.f3.params.toList args.toList ds p := hA0
  rw [Tryd.params3] at hA hval
  obtain ⟨v0, vs0, d0, ds0, p0, q0, hargs, rfl, rfl, h0, r0⟩ := trodAll_cons hA
  obtain ⟨rfl, rfl, rfl⟩ := trodAll_nil r0
  obtain rfl : args = #[v0] := by cases args; simp_all
  obtain ⟨rfl, rfl⟩ := trodVars_none hV
  have k0 := h0
  have lt0 : ∀ x ∈ p0, x.block < W.heap.size := by obtain ⟨m, hm⟩ := k0; exact DataW.trod_lt m _ _ _ hm
  obtain ⟨a0, rfl, rfl, rfl, w0⟩ := open_string Tryd.underlying9 (hval 0 9 v0 rfl rfl) h0
  clear hA0 hval0
  refine (FnExactParseEdit_walk a0 W hM w0).mono fun e W' ⟨he, bel⟩ => ?_
  subst he
  exact ⟨_, rfl, _, _, _, [], _, [], hW', trodAll_mk1 (shut_bool Tryd.underlying4 _), (trodAll_cons_mk (Below.trod laidOut (by kernel_rfl) (of_decide_eq_true (by kernel_rfl)) k0 bel lt0) trodAll_mk0), rfl, bel.frame _, fun h => by cases h⟩
theorem over : Rows.FnExactParseEditSaid :=
  OpenClaim.holds_of_wide 3 Tryd.f3 rfl rfl rfl rfl rfl rfl rfl ⟨rfl, rfl, rfl, rfl, rfl⟩ rfl rfl rfl rfl rfl (by kernel_rfl) Tryd.func3 (by kernel_rfl)
    (of_decide_eq_true (by kernel_rfl)) (by unfold Func.isWrapper; first | (rw [if_pos (by decide +kernel)]; kernel_rfl) | (rw [if_neg (by decide +kernel)]; exact ⟨rfl, rfl⟩))
    (fun os started H enc _ => lifted os started H enc)
theorem proved : Rows.FnExactParseEditCardSaid :=
  Claim7.holds_tied_plain_at .later [] [.data, .data, .data, .sentinel, .sentinel] true (true, "92744dd433f8901d11ae03c3b037c9a0970137cf27639ae85e02e29dbf5b055b") true over (fun _ h => by cases h) (by kernel_rfl) (fun _ h => by cases h) fnExactParseEdit_row_tie rfl ⟨rfl, rfl⟩ (by kernel_rfl) rfl
    (fun f fn hf hfn => by
      obtain rfl : f = 3 := Option.some.inj ((show Tryd.prog.funcNamed "loop.example/g00882/laws.FnExactParseEdit" = some 3 by kernel_rfl).symm.trans hf) |>.symm
      obtain rfl : fn = Tryd.f3 := (Option.some.inj (Tryd.func3.symm.trans hfn)).symm
      exact ⟨by kernel_rfl, fun j t ht => by
        rw [Tryd.params3] at ht
        have hm : t ∈ [9] := by simpa using Array.mem_of_getElem? ht
        have hall : ([9].all fun u => !Tryd.prog.wantsStandIn u) = true := by kernel_rfl
        exact (show Tryd.prog.wantsStandIn t = false by simpa using List.all_eq_true.1 hall t hm)⟩)
    (by kernel_rfl)
#print axioms proved
end fnExactParseEdit

end Go.Proofs.YtkbbcmbeafjpaabDoor
