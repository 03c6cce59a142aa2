/-
  THE CLAIM: the law FnExactSplitSuffix returns true for every input, and its arguments read afterwards as before. Conditions: none beyond the given statement's own.
-/
import Derived.Test.YtfjdbchffhbidaaStrM
import Derived.Test.YtfjdbchffhbidaaSpImp2
import Derived.Test.YtfjdbchffhbidaaOpen
import Derived.ProofKit
import Derived.OpenShut
import Derived.ShutString
import Derived.ChangeOld
import Derived.Below
import Derived.Lib.SmallJoins
namespace Go.Proofs.Ytfjdbchffhbidaa
open Go.RowKit Go.Joins

theorem apartS {w w' : World} {b1 : Nat} {E : TypeId} {size n m : Nat} {v v' : Value} {xs ys : List Value} (h : w.ownsRow b1 E size v n xs) (h' : w'.ownsRow w.heap.size E size v' m ys) : v.ownBlock = none ∨ v.ownBlock ≠ v'.ownBlock := by
  cases hv : v.ownBlock with
  | none => exact .inl rfl
  | some g =>
    right
    intro he
    have h1 := (h.lt g hv).2
    have h2 := (h'.lt g he.symm).1
    omega

set_option maxRecDepth 20000 in
set_option maxHeartbeats 3200000 in
theorem FnExactSplitSuffix_walk (s t : ByteArray) (w : World) (hs : s.size ≤ maxLen) (ht : t.size ≤ maxLen) :
    Calls Try.prog 4 #[.string s, .string t] w fun e w' => e = .returned (.bool true) ∧ Below w.heap.size w w' := by
  have HS := Lib.hid (fun W => specSplit_any s t W hs ht)
  have HI := Lib.hid (fun W => SplitSuffix_any s t W hs ht)
  generalize (if (Pl.isWord s && Pl.isWord t) = true then Pl.splitL s t else []) = l at HS HI
  generalize (Pl.isWord s && Pl.isWord t) = ok at HS HI
  unfold maxLen at hs ht
  by_cases hz : 1048576 < s.size
  · go_enter Try.func4, Try.ntmps4
    go_wp2
    go_ret
    exact ⟨rfl, Below.refl _ _⟩
  by_cases hz2 : 1048576 < t.size
  · go_enter Try.func4, Try.ntmps4
    go_wp2
    go_ret
    exact ⟨rfl, Below.refl _ _⟩
  cases ok
  all_goals
    go_enter Try.func4, Try.ntmps4
    go_wp2_with (first
      | (go_at_call 19; refine (heldStringS_any _ _ 1 _ (Rows.of_own R7.out) L1.out (by omega) (by omega)).mono ?_; rintro e w8 ⟨rfl, hb8⟩; have B8 := Lib.hid (B7.out.trans (hb8.mono B7.out.size)); clear R7 hb8)
      | (go_at_call 17; refine (eqStringS_same _ _ l _ (Rows.of_own S6.out) (Rows.of_own Q6.out) L1.out).mono ?_; rintro e w7 ⟨rfl, hd7⟩; have hb7 := hd7.below; have B7 := Lib.hid (B6.out.trans (hb7.mono B6.out.size)); have R7 := Lib.hid (own_keep R6.out hb7); clear R6 S6 Q6 hb7 hd7)
      | (go_at_call 9; have hx := R5; refine (HI.out _).mono ?_; rintro e w6 ⟨v6, rfl, ho6, hb6⟩; have B6 := Lib.hid (B5.out.trans (hb6.mono B5.out.size)); have S6 := Lib.hid ho6; have R6 := Lib.hid (own_keep R5.out hb6); have Q6 := Lib.hid (own_keep Q5.out hb6); clear hx R5 Q5 ho6 hb6)
      | (go_at_call 19; refine (heldStringS_any _ _ 1 _ (Rows.of_own R4.out) L1.out (by omega) (by omega)).mono ?_; rintro e w5 ⟨rfl, hb5⟩; have B5 := Lib.hid (B4.out.trans (hb5.mono B4.out.size)); have R5 := Lib.hid (own_keep R4.out hb5); have Q5 := Lib.hid (own_keep Q4.out hb5); clear R4 Q4 hb5)
      | (go_at_call 18; refine (markStringS_any _ _ _ _ 1 _ R3.out L1.out (by omega) (by omega)).mono ?_; rintro e w4 ⟨rfl, ho4, hg4⟩; have B4 := Lib.hid (B3.out.grown hg4 B3.out.size (fun k hk => Nat.le_trans N2.out (R3.out.lt k hk).1)); have R4 := Lib.hid ho4; have Q4 := Lib.hid (Q3.out.kept hg4 D2.out); clear R3 Q3 ho4 hg4)
      | (go_at_call 17; refine (eqStringS_same _ _ l _ (Rows.of_own R2.out) (Rows.of_own Q2.out) L1.out).mono ?_; rintro e w3 ⟨rfl, hd3⟩; have hb3 := hd3.below; have B3 := Lib.hid (B2.out.trans (hb3.mono B2.out.size)); have R3 := Lib.hid (own_keep R2.out hb3); have Q3 := Lib.hid (own_keep Q2.out hb3); clear R2 Q2 hb3 hd3)
      | (go_at_call 9; refine (HI.out _).mono ?_; rintro e w2 ⟨v2, rfl, ho2, hb2⟩; have B2 := Lib.hid (B1.out.trans (hb2.mono B1.out.size)); have R2 := Lib.hid ho2; have Q2 := Lib.hid (own_keep Q1.out hb2); have N2 := Lib.hid B1.out.size; have D2 := Lib.hid (apartS Q1.out ho2); clear Q1 ho2 hb2)
      | (go_at_call 10; refine (HS.out _).mono ?_; rintro e w1 ⟨v1, rfl, ho1, hb1⟩; have B1 := Lib.hid hb1; have Q1 := Lib.hid ho1.1.2; have L1 := Lib.hid (show l.length ≤ 1048576 by have := ho1.2.1; omega); have hl7 := ho1.2.1; clear ho1 hb1))
    go_ret
    exact ⟨rfl, B8.out⟩

namespace fnExactSplitSuffix
open Go.ChangeShapes Go.WideShapes Go.ChangeAt Go.RowKit
open Go.ChangeMaps (open_string shut_string)
set_option linter.unusedVariables false
theorem own : ownKnob Try.prog.godebug = none := by kernel_rfl
theorem laidOut : laidOutB Try.prog = true := by kernel_rfl
set_option maxRecDepth 100000 in
theorem lifted (os : Os) (started : os.Started) (H : Type) (enc : TypeId × Value → H) :
    ReturnsInHanded {} Try.checked os 4 .any (Rows.fnExactSplitSuffixSpec.pre6 enc Try.prog Try.f4 Rows.fnExactSplitSuffixRow.domain false) (Rows.fnExactSplitSuffixSpec.post enc Try.prog Try.f4 false true false false) := by
  refine returnsInHanded_of_change (C := Try.checked) own started (by kernel_rfl) Try.func4
    (ChangeSpec.witness6 (enc := enc) (C := Try.checked) false ⟨#[], #[.string ⟨#[]⟩, .string ⟨#[]⟩], []⟩ 8 (by kernel_rfl) (by kernel_rfl) (by kernel_rfl) (by kernel_rfl)) ?_
  intro W base args ds gs before hval0 hW hcnd _
  have hval : ∀ (j : Nat) t v, Try.f4.params[j]? = some t → args[j]? = some v → Value.okWide Try.prog W .any base t v := hval0
  have hW' := hW
  obtain ⟨p, q, hA0, hV, rfl, hfz, hnd⟩ := hW
  have hA : DataW.TrodAll enc Try.prog W 0 (fun _ => true) true Try.f4.params.toList args.toList ds p := hA0
  rw [Try.params4] at hA hval
  obtain ⟨v0, vs0, d0, ds0, p0, q0, hargs, rfl, rfl, h0, r0⟩ := trodAll_cons hA
  obtain ⟨v1, vs1, d1, ds1, p1, q1, rfl, rfl, rfl, h1, r1⟩ := trodAll_cons r0
  obtain ⟨rfl, rfl, rfl⟩ := trodAll_nil r1
  obtain rfl : args = #[v0, v1] := by cases args; simp_all
  obtain ⟨rfl, rfl⟩ := trodVars_none hV
  have k0 := h0
  have lt0 : ∀ x ∈ p0, x.block < W.heap.size := by obtain ⟨m, hm⟩ := k0; exact DataW.trod_lt m _ _ _ hm
  obtain ⟨a0, rfl, rfl, rfl, w0⟩ := open_string Try.underlying9 (hval 0 9 v0 rfl rfl) h0
  have k1 := h1
  have lt1 : ∀ x ∈ p1, x.block < W.heap.size := by obtain ⟨m, hm⟩ := k1; exact DataW.trod_lt m _ _ _ hm
  obtain ⟨a1, rfl, rfl, rfl, w1⟩ := open_string Try.underlying9 (hval 1 9 v1 rfl rfl) h1
  clear hA0 hval0
  refine (FnExactSplitSuffix_walk a0 a1 W w0 w1).mono fun e W' ⟨he, bel⟩ => ?_
  subst he
  exact ⟨_, rfl, _, _, _, [], _, [], hW', trodAll_mk1 (shut_bool Try.underlying4 _), (trodAll_cons_mk (Below.trod laidOut (by kernel_rfl) (of_decide_eq_true (by kernel_rfl)) k0 bel lt0) (trodAll_cons_mk (Below.trod laidOut (by kernel_rfl) (of_decide_eq_true (by kernel_rfl)) k1 bel lt1) trodAll_mk0)), rfl, bel.frame _, fun h => by cases h⟩
theorem over : Rows.fnExactSplitSuffixRow.holds Try.pinned (OpenSpec.ofChange Rows.fnExactSplitSuffixSpec) :=
  OpenClaim.holds_of_wide 4 Try.f4 rfl rfl rfl rfl rfl rfl rfl ⟨rfl, rfl, rfl, rfl, rfl⟩ rfl rfl rfl rfl rfl (by kernel_rfl) Try.func4 (by kernel_rfl)
    (of_decide_eq_true (by kernel_rfl)) (by unfold Func.isWrapper; first | (rw [if_pos (by decide +kernel)]; kernel_rfl) | (rw [if_neg (by decide +kernel)]; exact ⟨rfl, rfl⟩))
    (fun os started H enc _ => lifted os started H enc)
theorem proved : Rows.FnExactSplitSuffixSaid := over
#print axioms proved
end fnExactSplitSuffix

end Go.Proofs.Ytfjdbchffhbidaa
