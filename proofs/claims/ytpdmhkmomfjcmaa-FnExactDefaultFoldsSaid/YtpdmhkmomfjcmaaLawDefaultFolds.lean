/-
  THE CLAIM: the law FnExactDefaultFolds returns true. Conditions: none beyond the given statement's own.
-/
import Derived.Test.YtpdmhkmomfjcmaaMark
import Derived.Test.YtpdmhkmomfjcmaaOpen
import Derived.ProofKit
import Derived.OpenShut
import Derived.ShutString
import Derived.ChangeOld
import Derived.Below
import Derived.Lib.SmallJoins
namespace Go.Proofs.Ytpdmhkmomfjcmaa
open Go.RowKit Go.Joins

/-- the usual folds -/
def dflt : List (Int × ByteArray) := [(18, ⟨#[105, 110, 103]⟩), (21, ⟨#[101, 100]⟩), (20, ⟨#[115]⟩), (22, ⟨#[115]⟩)]

theorem rows_whole (w : World) (cur : Array Value) (E : TypeId) (size n : Nat) (h : cur.size = n * size) (hm : n ≤ maxLen) : (w.alloc (.cells cur E)).ownsRow w.heap.size E size (.slice (some ⟨w.heap.size, 0, none⟩) n n) n cur.toList :=
  ⟨by simpa using h, .inr ⟨w.heap.size, n, cur, rfl, Nat.le_refl _, heap_alloc_new w _, Nat.le_refl _, hm, h, by rw [← h, ← Array.length_toList, List.take_length]⟩⟩

theorem DefaultFolds_any (w : World) : Calls Try.prog 45 #[] w (RetRow 79 2 w.heap.size w 4 (folds dflt)) := by
  have HO := Lib.hid (rows_whole w #[.int .i64 18, .string ⟨#[105, 110, 103]⟩, .int .i64 21, .string ⟨#[101, 100]⟩, .int .i64 20, .string ⟨#[115]⟩, .int .i64 22, .string ⟨#[115]⟩] 79 2 4 rfl (by unfold maxLen; omega))
  have HB := Lib.hid (Joins.below_alloc1 w (.cells #[.int .i64 18, .string ⟨#[105, 110, 103]⟩, .int .i64 21, .string ⟨#[101, 100]⟩, .int .i64 20, .string ⟨#[115]⟩, .int .i64 22, .string ⟨#[115]⟩] 79))
  go_enter Try.func45, Try.ntmps45
  go_wp2
  go_ret
  exact ⟨_, rfl, HO.out, HB.out⟩

theorem specDefaultFolds_any (w : World) : Calls Try.prog 44 #[] w (RetRow 79 2 w.heap.size w 4 (folds dflt)) := by
  have HO := Lib.hid (rows_whole w #[.int .i64 18, .string ⟨#[105, 110, 103]⟩, .int .i64 21, .string ⟨#[101, 100]⟩, .int .i64 20, .string ⟨#[115]⟩, .int .i64 22, .string ⟨#[115]⟩] 79 2 4 rfl (by unfold maxLen; omega))
  have HB := Lib.hid (Joins.below_alloc1 w (.cells #[.int .i64 18, .string ⟨#[105, 110, 103]⟩, .int .i64 21, .string ⟨#[101, 100]⟩, .int .i64 20, .string ⟨#[115]⟩, .int .i64 22, .string ⟨#[115]⟩] 79))
  go_enter Try.func44, Try.ntmps44
  go_wp2
  go_ret
  exact ⟨_, rfl, HO.out, HB.out⟩

/-- two rows of which the later one was laid behind the earlier -/
theorem apart {w w' : World} {b1 : Nat} {E : TypeId} {size n m : Nat} {v v' : Value} {xs ys : List Value} (h : w.ownsRow b1 E size v n xs) (h' : w'.ownsRow w.heap.size E size v' m ys) : v.ownBlock = none ∨ v.ownBlock ≠ v'.ownBlock := by
  cases hv : v.ownBlock with
  | none => exact .inl rfl
  | some g =>
    right
    intro he
    have h1 := (h.lt g hv).2
    have h2 := (h'.lt g he.symm).1
    omega

set_option maxRecDepth 20000 in
set_option maxHeartbeats 3200000 in
theorem FnExactDefaultFolds_walk (w : World) :
    Calls Try.prog 12 #[] w fun e w' => e = .returned (.bool true) ∧ Below w.heap.size w w' := by
  go_enter Try.func12, Try.ntmps12
  go_wp2_with (first
    | (go_at_call 48; refine (heldFoldS_any _ 4 1 _ (Rows.of_own R7.out) (by omega) (by omega) (by omega)).mono ?_; rintro e w8 ⟨rfl, hb8⟩; have B8 := Lib.hid (B7.out.trans (hb8.mono B7.out.size)); clear R7 hb8)
    | (go_at_call 46; refine (eqFoldS_same _ _ dflt _ (Rows.of_own S6.out) (Rows.of_own Q6.out) (by decide)).mono ?_; rintro e w7 ⟨rfl, hb7⟩; have B7 := Lib.hid (B6.out.trans (hb7.mono B6.out.size)); have R7 := Lib.hid (own_keep R6.out hb7); clear R6 S6 Q6 hb7)
    | (go_at_call 45; have hx := R5; refine (DefaultFolds_any _).mono ?_; rintro e w6 ⟨v6, rfl, ho6, hb6⟩; have B6 := Lib.hid (B5.out.trans (hb6.mono B5.out.size)); have S6 := Lib.hid ho6; have R6 := Lib.hid (own_keep R5.out hb6); have Q6 := Lib.hid (own_keep Q5.out hb6); clear hx R5 Q5 ho6 hb6)
    | (go_at_call 48; refine (heldFoldS_any _ 4 1 _ (Rows.of_own R4.out) (by omega) (by omega) (by omega)).mono ?_; rintro e w5 ⟨rfl, hb5⟩; have B5 := Lib.hid (B4.out.trans (hb5.mono B4.out.size)); have R5 := Lib.hid (own_keep R4.out hb5); have Q5 := Lib.hid (own_keep Q4.out hb5); clear R4 Q4 hb5)
    | (go_at_call 47; refine (markFoldS_any _ _ 4 _ 1 _ R3.out (by omega) (by omega) (by omega) (by omega)).mono ?_; rintro e w4 ⟨rfl, ho4, hg4⟩; have B4 := Lib.hid (B3.out.grown hg4 B3.out.size (fun k hk => Nat.le_trans N2.out (R3.out.lt k hk).1)); have R4 := Lib.hid ho4; have Q4 := Lib.hid (Q3.out.kept hg4 D2.out); clear R3 Q3 ho4 hg4)
    | (go_at_call 46; refine (eqFoldS_same _ _ dflt _ (Rows.of_own R2.out) (Rows.of_own Q2.out) (by decide)).mono ?_; rintro e w3 ⟨rfl, hb3⟩; have B3 := Lib.hid (B2.out.trans (hb3.mono B2.out.size)); have R3 := Lib.hid (own_keep R2.out hb3); have Q3 := Lib.hid (own_keep Q2.out hb3); clear R2 Q2 hb3)
    | (go_at_call 45; refine (DefaultFolds_any _).mono ?_; rintro e w2 ⟨v2, rfl, ho2, hb2⟩; have B2 := Lib.hid (B1.out.trans (hb2.mono B1.out.size)); have R2 := Lib.hid ho2; have Q2 := Lib.hid (own_keep Q1.out hb2); have N2 := Lib.hid B1.out.size; have D2 := Lib.hid (apart Q1.out ho2); clear Q1 ho2 hb2)
    | (go_at_call 44; refine (specDefaultFolds_any _).mono ?_; rintro e w1 ⟨v1, rfl, ho1, hb1⟩; have B1 := Lib.hid hb1; have Q1 := Lib.hid ho1; clear ho1 hb1))
  go_ret
  exact ⟨rfl, B8.out⟩

namespace fnExactDefaultFolds
open Go.ChangeShapes Go.WideShapes Go.ChangeAt Go.RowKit
open Go.ChangeMaps (open_string shut_string)
set_option linter.unusedVariables false
theorem own : ownKnob Try.prog.godebug = none := by kernel_rfl
theorem laidOut : laidOutB Try.prog = true := by kernel_rfl
set_option maxRecDepth 100000 in
theorem lifted (os : Os) (started : os.Started) (H : Type) (enc : TypeId × Value → H) :
    ReturnsInHanded {} Try.checked os 12 .any (Rows.fnExactDefaultFoldsSpec.pre6 enc Try.prog Try.f12 Rows.fnExactDefaultFoldsRow.domain false) (Rows.fnExactDefaultFoldsSpec.post enc Try.prog Try.f12 false true false false) := by
  refine returnsInHanded_of_change (C := Try.checked) own started (by kernel_rfl) Try.func12
    (ChangeSpec.witness6 (enc := enc) (C := Try.checked) false ⟨#[], #[], []⟩ 8 (by kernel_rfl) (by kernel_rfl) (by kernel_rfl) (by kernel_rfl)) ?_
  intro W base args ds gs before hval0 hW hcnd _
  have hval : ∀ (j : Nat) t v, Try.f12.params[j]? = some t → args[j]? = some v → Value.okWide Try.prog W .any base t v := hval0
  have hW' := hW
  obtain ⟨p, q, hA0, hV, rfl, hfz, hnd⟩ := hW
  have hA : DataW.TrodAll enc Try.prog W 0 (fun _ => true) true Try.f12.params.toList args.toList ds p := hA0
  rw [Try.params12] at hA hval
  obtain ⟨rfl, rfl, rfl⟩ := trodAll_none hA
  obtain ⟨rfl, rfl⟩ := trodVars_none hV
  clear hA0 hval0
  refine (FnExactDefaultFolds_walk  W ).mono fun e W' ⟨he, bel⟩ => ?_
  subst he
  exact ⟨_, rfl, _, _, _, [], _, [], hW', trodAll_mk1 (shut_bool Try.underlying4 _), rfl, rfl, bel.frame _, fun h => by cases h⟩
theorem over : Rows.fnExactDefaultFoldsRow.holds Try.pinned (OpenSpec.ofChange Rows.fnExactDefaultFoldsSpec) :=
  OpenClaim.holds_of_wide 12 Try.f12 rfl rfl rfl rfl rfl rfl rfl ⟨rfl, rfl, rfl, rfl, rfl⟩ rfl rfl rfl rfl rfl (by kernel_rfl) Try.func12 (by kernel_rfl)
    (of_decide_eq_true (by kernel_rfl)) (by unfold Func.isWrapper; first | (rw [if_pos (by decide +kernel)]; kernel_rfl) | (rw [if_neg (by decide +kernel)]; exact ⟨rfl, rfl⟩))
    (fun os started H enc _ => lifted os started H enc)
theorem proved : Rows.FnExactDefaultFoldsSaid := over
#print axioms proved
end fnExactDefaultFolds

end Go.Proofs.Ytpdmhkmomfjcmaa
