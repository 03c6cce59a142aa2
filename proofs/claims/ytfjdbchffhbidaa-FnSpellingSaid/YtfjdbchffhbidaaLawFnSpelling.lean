/-
  THE CLAIM: the law FnSpelling returns true for every code, and its argument reads afterwards as before. Conditions: none beyond the given statement's own.
-/
import Derived.Test.YtfjdbchffhbidaaSpImp2
import Derived.Test.YtfjdbchffhbidaaDrawSplit
import Derived.Test.YtfjdbchffhbidaaOpenB
import Derived.Test.YtfjdbchffhbidaaPlainLaws
import Derived.ProofKit
import Derived.OpenShut
import Derived.ShutString
import Derived.ChangeOld
import Derived.Below
import Derived.WalkSmall
import Derived.Test.YtfjdbchffhbidaaOpen
namespace Go.Proofs.Ytfjdbchffhbidaa
open Go.RowKit

theorem Pl.join_pos {s t : ByteArray} (h1 : 1 ≤ s.size) (h2 : 1 ≤ t.size) : 1 ≤ (Pl.join s t).size := by
  rcases Pl.rule_cases s t with hr | hr | hr | hr | hr | hr | hr
  · rw [Pl.join0 hr, ByteArray.size_append]; omega
  · rw [Pl.join1 hr, ByteArray.size_append, show (⟨#[105, 101, 115]⟩ : ByteArray).size = 3 from rfl]; omega
  · rw [Pl.join2 hr, ByteArray.size_append]; omega
  · rw [Pl.join3 hr, ByteArray.size_append, show (⟨#[121, 105, 110, 103]⟩ : ByteArray).size = 4 from rfl]; omega
  · rw [Pl.join4 hr, ByteArray.size_append]; omega
  · rw [Pl.join5 hr, ByteArray.size_append]; omega
  · rw [Pl.join6 hr, ByteArray.size_append]; omega
/-- what a joined word is -/
theorem Pl.join_back {s t : ByteArray} (h : Pl.joinOk s t = true) : (Pl.isWord (Pl.joinOut s t) && Pl.isWord t) = true ∧ s ∈ Pl.splitL (Pl.joinOut s t) t := by
  obtain ⟨_, _, e, hz⟩ := Pl.join_told h
  have h2 := h
  simp only [Pl.joinOk, Bool.and_eq_true, decide_eq_true_iff] at h2
  have z1 := Pl.isWord_size h2.1.1
  have z2 := Pl.isWord_size h2.1.2
  have hp := Pl.join_pos (s := s) (t := t) z1.1 z2.1
  rw [e]
  constructor
  · have ha := Pl.join_all h2.1.1 h2.1.2
    rw [h2.1.2, Bool.and_true]
    unfold Pl.isWord Pl.inB
    rw [ha]
    simp only [Bool.true_and, Bool.and_eq_true, decide_eq_true_iff]
    omega
  · rw [Pl.splitL_mem, Pl.splits_iff]
    exact ⟨h2.1.1, rfl⟩
/-- what the law is told of the words that are handed back -/
def Told (s t : ByteArray) (l : List ByteArray) : Prop :=
  (∀ (k : Nat) (h : k < l.length), (l[k]).size ≤ 24 ∧ Pl.joinOk l[k] t = true ∧ Pl.joinOut l[k] t = s) ∧ ∀ (k : Nat) (h : k + 1 < l.length), Pl.ltB (l[k]'(by omega)) l[k + 1] = true
theorem told (s t : ByteArray) : Told s t (if (Pl.isWord s && Pl.isWord t) = true then Pl.splitL s t else []) := by
  split
  · rename_i h
    rw [Bool.and_eq_true] at h
    have z := Pl.isWord_size h.1
    refine ⟨fun k hk => ?_, fun k hk => ?_⟩
    · have hm := Pl.splitL_mem.1 (List.getElem_mem hk)
      rw [Pl.splits_iff] at hm
      have hz : (Pl.join (Pl.splitL s t)[k] t).size ≤ 24 := by rw [hm.2]; omega
      obtain ⟨e1, e2⟩ := Pl.join_yes hm.1 h.2 rfl hz
      exact ⟨(Pl.isWord_size hm.1).2, e2, e1.trans hm.2⟩
    · have ha := Pl.splitL_asc s t
      unfold Pl.Asc at ha
      rw [List.pairwise_iff_getElem] at ha
      exact ha k (k + 1) (by omega) hk (by omega)
  · exact ⟨fun k hk => absurd hk (by simp), fun k hk => absurd hk (by simp)⟩

set_option maxHeartbeats 400000 in
theorem less_yes (a b : ByteArray) (w : World) (h : Pl.ltB a b = true) :
    Calls Try.prog 14 #[.string a, .string b] w fun e w' => e = .returned (.bool true) ∧ w = w' := by
  rw [← Pl.lt_bytes] at h
  go_enter Try.func14, Try.ntmps14
  go_wp2
  go_ret
  exact ⟨rfl, rfl⟩

/-- is the word among the first k? -/
def Pl.inTo (l : List ByteArray) (x : ByteArray) (k : Nat) : Bool := (l.take k).any fun y => y.toList == x.toList
theorem Pl.inTo_next (l : List ByteArray) (x : ByteArray) (k : Nat) (h : k < l.length) : Pl.inTo l x (k + 1) = (Pl.inTo l x k || (l[k].toList == x.toList)) := by
  unfold Pl.inTo
  rw [List.take_add_one, List.getElem?_eq_getElem h, List.any_append]
  simp
theorem Pl.inTo_all {l : List ByteArray} {x : ByteArray} (h : x ∈ l) : Pl.inTo l x l.length = true := by
  unfold Pl.inTo
  rw [List.take_length, List.any_eq_true]
  exact ⟨x, h, by simp⟩

set_option maxRecDepth 20000 in
set_option maxHeartbeats 4000000 in
theorem FnSpelling_walk (v : Value) (l0 : List Int) (w : World) (h : Rows w v l0.length 1 (u8s l0) ∧ allByte l0) :
    Calls Try.prog 3 #[v] w fun e w' => e = .returned (.bool true) ∧ Below w.heap.size w w' := by
  have HC : Code8 w v := ⟨l0, h.2, h.1⟩
  obtain ⟨a, cap, rfl, hcap, hmax, _, _, _⟩ := h.1
  unfold maxLen at hmax
  clear h
  by_cases hbig : 65536 < l0.length
  · go_enter Try.func3, Try.ntmps3
    go_wp2_with ((go_at_call 7; go_in))
    go_ret
    exact ⟨rfl, (by repeat (first | with_reducible exact Below.refl _ _ | with_reducible assumption | with_reducible refine Below.alloc ?_ ?_ _ | with_reducible refine Below.setCell ?_ ?_ _ | with_reducible refine Below.drew ?_ | with_reducible refine below_drewN ?_ _ | with_reducible refine Below.trans ?_ (Below.mono (by assumption) ?_) | omega | ((repeat (first | rw [World.size_alloc] | rw [size_setCell] | rw [size_drewN] | rw [size_drew])); omega) | exact Nat.le_refl _ | (dsimp only; omega) | (simp [World.setCell]; omega)))⟩
  · go_enter Try.func3, Try.ntmps3
    go_upto_region 4 with (first | (go_at_call 7; go_in) | (go_at_call 8; refine (DrawSplitSuffix_any _ _ HC).mono ?_; rintro e w1 ⟨s, t, rfl, hs, ht, hb1⟩; have HC1 := HC.keep hb1; have hs' : s.size ≤ maxLen := (by unfold maxLen; omega); have ht' : t.size ≤ maxLen := (by unfold maxLen; omega); have B1 := Lib.hid hb1; clear hb1))
    have HS := Lib.hid (fun W => specSplit_any s t W hs' ht')
    have HI := Lib.hid (fun W => SplitSuffix_any s t W hs' ht')
    have HT := Lib.hid (told s t)
    generalize (if (Pl.isWord s && Pl.isWord t) = true then Pl.splitL s t else []) = l at HS HI HT
    generalize (Pl.isWord s && Pl.isWord t) = ok at HS HI
    cases ok
    all_goals
      go_upto_region 8 with (first
        | (go_at_call 10; refine (HS.out _).mono ?_; rintro e w3 ⟨v3, rfl, ho3, hb3⟩; obtain ⟨a3, c3, rfl⟩ := row_formI ho3.1.2; have B3 := Lib.hid (below_on2 B2.out hb3); have Q3 := Lib.hid ho3.1.2; have R3 := Lib.hid (own_keep R2.out hb3); have L3 := Lib.hid (show l.length ≤ 7 from ho3.2.1); have HC3 := HC2.keep hb3; clear ho3 hb3 R2 B2)
        | (go_at_call 9; refine (HI.out _).mono ?_; rintro e w2 ⟨v2, rfl, ho2, hb2⟩; obtain ⟨a2, c2, rfl⟩ := row_formI ho2; have B2 := Lib.hid (below_on2 B1.out hb2); have R2 := Lib.hid ho2; have HC2 := HC1.keep hb2; clear ho2 hb2 B1)
        | (go_at_call 11; refine (IsWord_any s _ hs').mono ?_; rintro e w' ⟨rfl, rfl⟩)
        | (go_at_call 12; refine (specIsWord_any s _ hs').mono ?_; rintro e w' ⟨rfl, rfl⟩))
      have hl7 := L3.out
      have HR := Lib.hid (Rows.of_own R3.out); have HQ := Lib.hid (Rows.of_own Q3.out)
      obtain ⟨a2', c2', e2, _, _, _, _, hcr⟩ := HR.out
      cases e2
      obtain ⟨a3', c3', e3, _, _, _, _, hcq⟩ := HQ.out
      cases e3
      have CR := Lib.hid hcr; have CQ := Lib.hid hcq
      clear hcr hcq HR HQ R3 Q3
      go_wp2
      go_loopw [9] (fun i wr => ∃ k : Nat, k ≤ l.length ∧ i = .int .i64 k ∧ Below w3.heap.size w3 wr) (fun i _ => l.length - (intOf i).toNat)
      case atStart => exact ⟨0, Nat.zero_le _, rfl, Below.refl _ _⟩
      case round =>
        obtain ⟨k, hk, rfl, hb⟩ := hrel
        have HB := Lib.hid hb; clear hb
        by_cases hlt : k < l.length
        · obtain ⟨b, off, e4, h1⟩ := (CR.out.keep HB.out) k _ (strs_at l k hlt)
          obtain ⟨b', off', e5, h2⟩ := (CQ.out.keep HB.out) k _ (strs_at l k hlt)
          have HM := Lib.hid (fun j hj => (CR.out.keep HB.out) j _ (strs_at l j hj))
          cases e4
          cases e5
          obtain ⟨hz4, hok4, hout4⟩ := HT.out.1 k hlt
          have hki : (k : Int) < (l.length : Int) := by omega
          have hz5 : (l[k]).size ≤ maxLen := by unfold maxLen; omega
          have HJ := Lib.hid (fun W => JoinSuffix_any l[k] t W hz5 ht')
          rw [hok4, hout4] at HJ
          clear hok4 hout4 hz5
          by_cases hk0 : k = 0
          · subst hk0
            generalize l[0] = q at h1 h2 HJ hz4
            rw [Nat.add_zero] at h1 h2
            have hp : 0 < l.length := hlt
            go_upto_region 12 with (go_at_call 13; (with_reducible refine (HJ.out _).mono ?_); rintro e w4 ⟨rfl, hb4⟩; have h3 := keepc hb4 h1; have h4 := keepc hb4 h2; have B4 := Lib.hid (HB.out.trans (hb4.mono HB.out.size)); clear hb4)
            go_quiet (fail)
            go_wp2
            go_roundw
            case rel => exact ⟨0 + 1, by omega, by go_num, (B4.out).trans (Drew.below ⟨_, rfl⟩ |>.mono B4.out.size)⟩
            case measure => simp [intOf]; omega
          · obtain ⟨j, rfl⟩ : ∃ j, k = j + 1 := ⟨k - 1, by omega⟩
            obtain ⟨b6, off6, e6, h6⟩ := HM.out j (by omega)
            cases e6
            have HL := Lib.hid (HT.out.2 j hlt)
            generalize l[j + 1] = q at h1 h2 HJ hz4 HL
            generalize l[j] = p at h6 HL
            go_upto_region 12 with (go_at_call 13; (with_reducible refine (HJ.out _).mono ?_); rintro e w4 ⟨rfl, hb4⟩; have h3 := keepc hb4 h1; have h4 := keepc hb4 h2; have h5 := keepc hb4 h6; have B4 := Lib.hid (HB.out.trans (hb4.mono HB.out.size)); clear hb4)
            have i0 : (0 : Int) ≤ ((j + 1 : Nat) : Int) - 1 := by omega
            have i1 : (((j + 1 : Nat) : Int) - 1).toNat = j := by omega
            have i2 : IntKind.i64.wrap (((j + 1 : Nat) : Int) - 1) = ((j + 1 : Nat) : Int) - 1 := IntWalk.i64_in _ (by omega)
            have i3 : ((j + 1 : Nat) : Int) - 1 < (l.length : Int) := by omega
            have i4 : decide ((0 : Int) < ((j + 1 : Nat) : Int)) = true := decide_eq_true (by omega)
            go_quiet ((go_at_call 14; exact quiet_eq (less_yes _ _ _ HL.out)))
            go_wp2
            go_roundw
            case rel => exact ⟨j + 1 + 1, by omega, by go_num, (B4.out).trans (Drew.below ⟨_, rfl⟩ |>.mono B4.out.size)⟩
            case measure => simp [intOf]; omega
        · have B5 := Lib.hid (below_on2 B3.out HB.out)
          have HC5 := HC3.keep HB.out
          clear CR CQ HB B3 HC3 HC HC1 HC2 HT L3
          go_upto_region 15 with (go_at_call 15; refine (DrawJoinSuffix_any _ _ HC5).mono ?_; rintro e w6 ⟨x, y, rfl, hx, hy, hb6⟩; have hx' : x.size ≤ maxLen := (by unfold maxLen; omega); have hy' : y.size ≤ maxLen := (by unfold maxLen; omega); have B6 := Lib.hid (below_on2 B5.out hb6); clear hb6)
          have zj := Pl.joinOut_size x y
          cases hj : Pl.joinOk x y
          · have hz : Pl.joinOut x y = ⟨#[]⟩ := by unfold Pl.joinOut; rw [hj]; rfl
            go_wp2_with (first
              | (go_at_call 13; refine (JoinSuffix_any _ _ _ hx' hy').mono ?_; rintro e w7 ⟨he, hb7⟩; rw [hj, hz] at he; subst he; have B7 := Lib.hid (below_on2 B6.out hb7); clear hb7)
              | (go_at_call 16; refine (specJoinSuffix_any _ _ _ hx' hy').mono ?_; rintro e w' ⟨he, rfl⟩; rw [hj, hz] at he; subst he))
            go_ret
            exact ⟨rfl, B7.out⟩
          · obtain ⟨hb1, hb2⟩ := Pl.join_back hj
            have HI2 := Lib.hid (fun W => SplitSuffix_any (Pl.joinOut x y) y W (by unfold maxLen; omega) hy')
            rw [hb1] at HI2
            simp only [if_true] at HI2
            have HA := Lib.hid (Pl.inTo_all hb2)
            have HJ := Lib.hid (fun W => JoinSuffix_any x y W hx' hy')
            have HJ2 := Lib.hid (fun W => specJoinSuffix_any x y W hx' hy')
            rw [hj] at HJ HJ2
            clear hb1 hb2 hj
            generalize Pl.splitL (Pl.joinOut x y) y = l2 at HI2 HA
            generalize Pl.joinOut x y = z at HI2 zj HJ HJ2
            go_wp2_with (first
              | (go_at_call 9; (with_reducible refine (HI2.out _).mono ?_); rintro e w8 ⟨v8, rfl, ho8, hb8⟩; obtain ⟨a8, c8, rfl⟩ := row_formI ho8; have B8 := Lib.hid (below_on2 B7.out hb8); have R8 := Lib.hid (Rows.of_own ho8); clear ho8 hb8)
              | (go_at_call 13; (with_reducible refine (HJ.out _).mono ?_); rintro e w7 ⟨rfl, hb7⟩; have B7 := Lib.hid (below_on2 B6.out hb7); clear hb7)
              | (go_at_call 16; (with_reducible refine (HJ2.out _).mono ?_); rintro e w' ⟨rfl, rfl⟩))
            obtain ⟨a8', c8', e8, hl8, hm8, _, _, hc8⟩ := R8.out
            cases e8
            unfold maxLen at hm8
            have C8 := Lib.hid hc8
            clear hc8 R8
            go_loop [20, 21] (fun u i => ∃ k : Nat, k ≤ l2.length ∧ i = .int .i64 k ∧ u = .bool (Pl.inTo l2 x k)) (fun _ i => l2.length - (intOf i).toNat)
            case atStart => exact ⟨0, Nat.zero_le _, rfl, rfl⟩
            case round =>
              obtain ⟨k2, hk2, rfl, rfl⟩ := hrel
              by_cases hlt2 : k2 < l2.length
              · obtain ⟨b9, off9, e9, h9⟩ := C8.out k2 _ (strs_at l2 k2 hlt2)
                cases e9
                have hki2 : (k2 : Int) < (l2.length : Int) := by omega
                have HN := Lib.hid (Pl.inTo_next l2 x k2 hlt2)
                generalize l2[k2] = q2 at h9 HN
                generalize Pl.inTo l2 x k2 = u2 at HN ⊢
                cases u2
                · generalize hq2 : (q2.toList == x.toList) = f2 at HN
                  cases f2
                  all_goals
                    go_wp2
                    go_round
                    case rel => exact ⟨k2 + 1, by omega, by go_num, by rw [HN.out]; rfl⟩
                    case measure => simp [intOf]; omega
                · go_wp2
                  go_round
                  case rel => exact ⟨k2 + 1, by omega, by go_num, by rw [HN.out]; rfl⟩
                  case measure => simp [intOf]; omega
              · obtain rfl : k2 = l2.length := by omega
                rw [HA.out]
                go_wp2
                go_ret
                exact ⟨rfl, B8.out⟩

namespace fnSpelling
open Go.ChangeShapes Go.WideShapes Go.ChangeAt Go.RowKit
open Go.ChangeMaps (open_string shut_string)
set_option linter.unusedVariables false
theorem own : ownKnob Try.prog.godebug = none := by kernel_rfl
theorem laidOut : laidOutB Try.prog = true := by kernel_rfl
set_option maxRecDepth 100000 in
theorem lifted (os : Os) (started : os.Started) (H : Type) (enc : TypeId × Value → H) :
    ReturnsInHanded {} Try.checked os 3 .any (Rows.fnSpellingSpec.pre6 enc Try.prog Try.f3 Rows.fnSpellingRow.domain false) (Rows.fnSpellingSpec.post enc Try.prog Try.f3 false true false false) := by
  refine returnsInHanded_of_change (C := Try.checked) own started (by kernel_rfl) Try.func3
    (ChangeSpec.witness6 (enc := enc) (C := Try.checked) false ⟨#[], #[.slice none 0 0], []⟩ 8 (by kernel_rfl) (by kernel_rfl) (by kernel_rfl) (by kernel_rfl)) ?_
  intro W base args ds gs before hval0 hW hcnd _
  have hval : ∀ (j : Nat) t v, Try.f3.params[j]? = some t → args[j]? = some v → Value.okWide Try.prog W .any base t v := hval0
  have hW' := hW
  obtain ⟨p, q, hA0, hV, rfl, hfz, hnd⟩ := hW
  have hA : DataW.TrodAll enc Try.prog W 0 (fun _ => true) true Try.f3.params.toList args.toList ds p := hA0
  rw [Try.params3] at hA hval
  obtain ⟨v0, vs0, d0, ds0, p0, q0, hargs, rfl, rfl, h0, r0⟩ := trodAll_cons hA
  obtain ⟨rfl, rfl, rfl⟩ := trodAll_nil r0
  obtain rfl : args = #[v0] := by cases args; simp_all
  obtain ⟨rfl, rfl⟩ := trodVars_none hV
  have k0 := h0
  have lt0 : ∀ x ∈ p0, x.block < W.heap.size := by obtain ⟨m, hm⟩ := k0; exact DataW.trod_lt m _ _ _ hm
  obtain ⟨a0, w0⟩ := (fun W v hv h => open_bytesR (w := W) (v := v) Try.underlying22 Try.underlying5 (by kernel_rfl) hv h) W v0 (hval 0 22 v0 rfl rfl) h0
  clear hA0 hval0
  refine (FnSpelling_walk v0 a0 W w0).mono fun e W' ⟨he, bel⟩ => ?_
  subst he
  exact ⟨_, rfl, _, _, _, [], _, [], hW', trodAll_mk1 (shut_bool Try.underlying4 _), (trodAll_cons_mk (Below.trod laidOut (by kernel_rfl) (of_decide_eq_true (by kernel_rfl)) k0 bel lt0) trodAll_mk0), rfl, bel.frame _, fun h => by cases h⟩
theorem over : Rows.fnSpellingRow.holds Try.pinned (OpenSpec.ofChange Rows.fnSpellingSpec) :=
  OpenClaim.holds_of_wide 3 Try.f3 rfl rfl rfl rfl rfl rfl rfl ⟨rfl, rfl, rfl, rfl, rfl⟩ rfl rfl rfl rfl rfl (by kernel_rfl) Try.func3 (by kernel_rfl)
    (of_decide_eq_true (by kernel_rfl)) (by unfold Func.isWrapper; first | (rw [if_pos (by decide +kernel)]; kernel_rfl) | (rw [if_neg (by decide +kernel)]; exact ⟨rfl, rfl⟩))
    (fun os started H enc _ => lifted os started H enc)
theorem proved : Rows.FnSpellingSaid := over
#print axioms proved
end fnSpelling

end Go.Proofs.Ytfjdbchffhbidaa
