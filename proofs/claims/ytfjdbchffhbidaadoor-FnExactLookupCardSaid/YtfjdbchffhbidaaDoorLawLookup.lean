/-
  THE CLAIM: the law FnExactLookup returns true for every input, and its arguments read afterwards as before. Conditions: the given row's own (the listed tables of the library read as the program's text lays them; the card ties them).
-/
import Derived.Test.YtfjdbchffhbidaaDoorLook
import Derived.Test.YtfjdbchffhbidaaDoorDictT
import Derived.Test.YtfjdbchffhbidaaDoorTied
import Derived.Test.YtfjdbchffhbidaaDoorTie
import Derived.Test.YtfjdbchffhbidaaDoorCards
import Derived.ProofKit
import Derived.OpenShut
import Derived.ShutString
import Derived.ChangeOld
import Derived.Below
import Derived.WalkSmall
import Derived.Test.YtfjdbchffhbidaaDoorOpen
namespace Go.Proofs.YtfjdbchffhbidaaDoor
open Go.RowKit

set_option maxRecDepth 20000 in
set_option maxHeartbeats 3200000 in
theorem FnExactLookup_walk (v : Value) (l : List Ent) (vo : Value) (o : List Int) (W : World) (hm : ∃ m, W.cell? ⟨0, 0, none⟩ = some (.int .i64 m)) (hd : ∃ u, v = .agg #[u] ∧ Ents W u l ∧ (∀ q ∈ l, (∀ n ∈ q.1, (Lit.int .i64 n).wf = true) ∧ q.2.size ≤ maxLen)) (ho : Rows W vo o.length 1 (ints o) ∧ (∀ n ∈ o, (Lit.int .i64 n).wf = true)) :
    Calls Tryd.prog 6 #[v, vo] W fun e W' => e = .returned (.bool true) ∧ Below W.heap.size W W' := by
  obtain ⟨v, rfl, hr, hsz⟩ := hd
  replace ho := ho.1
  have HR := Lib.hid hr
  have HO := Lib.hid ho
  have HB0 := Lib.hid (Joins.below_alloc1 W (.cells #[v] 43))
  have HM0 := Lib.hid (max_keepT hm HB0.out)
  obtain ⟨a, cap, rfl, _, _⟩ := ent_form hr
  obtain ⟨ao, co, rfl, _, _⟩ := rows_form ho
  have HC := Lib.hid (show (W.alloc (.cells #[.slice a l.length cap] 43)).cell? ⟨W.heap.size, 0, none⟩ = some (.slice a l.length cap) by simp [go_sem])
  have HS := Lib.hid (fun W h1 => szDictionary_any (.slice a l.length cap) l 1048576 W h1 hsz (by omega) (by omega))
  unfold SzLeft at HS
  clear hr ho hm hsz
  by_cases hol : 1048576 < o.length
  · go_enter Tryd.func6, Tryd.ntmps6
    go_wp2
    go_ret
    exact ⟨rfl, HB0.out⟩
  have hol2 : o.length ≤ 1048576 := by omega
  have HE0 := Lib.hid (HR.out.keep HB0.out)
  go_enter Tryd.func6, Tryd.ntmps6
  go_upto_region 5 with (go_at_call 22; (with_reducible refine (HS.out _ HE0.out).mono ?_); rintro e w1 ⟨⟨r, rfl, h1, h2, h3⟩, hb1⟩; have HB1 := Lib.hid (HB0.out.trans (hb1.mono HB0.out.size)); have d1 := keepcT hb1 HC.out; have HM1 := Lib.hid (max_keepT HM0.out hb1); clear hb1)
  by_cases hneg : r < 0
  · go_wp2
    go_ret
    exact ⟨rfl, HB1.out⟩
  have HF := Lib.hid (h3 (by omega))
  have hl : l.length ≤ 1048576 := HF.out.1
  have hs : ∀ p ∈ l, p.1.length ≤ 1048576 ∧ p.2.size ≤ 1048576 := HF.out.2
  have HT := Lib.hid (fun W h => toDictionary_any (.slice a l.length cap) l W h HF.out)
  have HI := Lib.hid (fun W h => toIntS_any (.slice ao o.length co) o W h hol2)
  unfold RetDict at HT
  unfold RetRow at HI
  have HSL := Lib.hid (fun V Y W h1 h2 => specLookup_any V Y l o W h1 hl hs h2)
  have HIL := Lib.hid (fun V Y W h1 h2 h3 => Lookup_any V Y l o W h1 hl hs h2 h3)
  generalize lookOut l o = t at HSL HIL
  generalize lookOk l o = y at HSL HIL
  have HE1 := Lib.hid (HR.out.keep HB1.out)
  clear hl hs h1 h2 h3 HC HS HE0 HM0
  go_upto_region 13 with (first
    | (go_at_call 26; (with_reducible refine (HIL.out _ _ _ E6.out X6.out HM6.out).mono ?_); rintro e w7 ⟨rfl, hb7⟩; have HB7 := Lib.hid (HB6.out.trans (hb7.mono HB6.out.size)); have d7 := keepcT hb7 d6; have c7 := keepcT hb7 c6; have E7 := Lib.hid (E6.out.keep hb7); have X7 := Lib.hid (X6.out.keep hb7); clear hb7)
    | (go_at_call 25; have hx := G5; (with_reducible refine (HI.out _ (HO.out.keep HB5b.out)).mono ?_); rintro e w6 ⟨x6, rfl, hown6, hb6⟩; obtain ⟨a6, c6', rfl⟩ := row_formD hown6; have X6 := Lib.hid (Rows.of_own hown6); have HB6 := Lib.hid (HB5b.out.trans (hb6.mono HB5b.out.size)); have d6 := keepcT hb6 d5b.out; have c6 := keepcT hb6 c5.out; have E6 := Lib.hid (E5b.out.keep hb6); have HM6 := Lib.hid (max_keepT HM5b.out hb6); clear hx hown6 hb6)
    | (go_at_call 24; have hx := HB4; (with_reducible refine (HT.out _ (HR.out.keep HB4.out)).mono ?_); rintro e w5 ⟨v5, rfl, hown5, hb5⟩; have HB5 := Lib.hid (HB4.out.trans (hb5.mono HB4.out.size)); have E5 := hown5.ents; obtain ⟨a5, cap5, rfl, _, _⟩ := ent_form E5; have G5 := Lib.hid E5; have d5 := keepcT hb5 d4; have HM5 := max_keepT HM4.out hb5; have HBb := Joins.below_alloc1 w5 (.cells #[.slice a5 l.length cap5] 49); have HB5b := Lib.hid (below_on3 HB5.out HBb); have d5b := Lib.hid (keepcT HBb d5); have E5b := Lib.hid (E5.keep HBb); have HM5b := Lib.hid (max_keepT HM5 HBb); have c5 := Lib.hid (show (w5.alloc (.cells #[.slice a5 l.length cap5] 49)).cell? ⟨w5.heap.size, 0, none⟩ = some (.slice a5 l.length cap5) by simp [go_sem]); clear hx hown5 hb5 HBb E5 HM5)
    | (go_at_call 23; (with_reducible refine (HSL.out _ _ _ E3.out X3.out).mono ?_); rintro e w4 ⟨rfl, hb4⟩; have HB4 := Lib.hid (HB3.out.trans (hb4.mono HB3.out.size)); have d4 := keepcT hb4 d3; have HM4 := Lib.hid (max_keepT HM3.out hb4); clear hb4)
    | (go_at_call 25; have hx := E2; (with_reducible refine (HI.out _ (HO.out.keep HB2.out)).mono ?_); rintro e w3 ⟨x3, rfl, hown3, hb3⟩; obtain ⟨a3, c3, rfl⟩ := row_formD hown3; have X3 := Lib.hid (Rows.of_own hown3); have HB3 := Lib.hid (HB2.out.trans (hb3.mono HB2.out.size)); have d3 := keepcT hb3 d2; have E3 := Lib.hid (E2.out.keep hb3); have HM3 := Lib.hid (max_keepT HM2.out hb3); clear hx hown3 hb3)
    | (go_at_call 24; (with_reducible refine (HT.out _ HE1.out).mono ?_); rintro e w2 ⟨v2, rfl, hown2, hb2⟩; have E2 := Lib.hid hown2.ents; obtain ⟨a2, cap2, rfl, _, _⟩ := ent_form E2.out; have HB2 := Lib.hid (HB1.out.trans (hb2.mono HB1.out.size)); have d2 := keepcT hb2 d1; have HM2 := Lib.hid (max_keepT HM1.out hb2); clear hown2 hb2))
  have E8 := Lib.hid (show Ents w7.drew (.slice a l.length cap) l from Ents.drew (HR.out.keep HB7.out) 1)
  have HQ := Lib.hid (fun V V' W h1 h2 => eqDictionary_same V V' l W h1 h2 HF.out)
  go_region_held3 (fun w' => w'.cell? ⟨w5.heap.size, 0, none⟩ = some (.slice a5 l.length cap5) ∧ w'.cell? ⟨W.heap.size, 0, none⟩ = some (.slice a l.length cap)) (first | exact ⟨c9, d9⟩ | exact ⟨c8, d8⟩ | exact ⟨c7, d7⟩) (first
    | (go_at_call 24; (with_reducible refine (HT.out _ E8.out).mono ?_); rintro e w8 ⟨v8, rfl, hown8, hb8⟩; have G8 := Lib.hid hown8.ents; obtain ⟨a8, cap8, rfl, _, _⟩ := ent_form G8.out; have HB8 := Lib.hid ((below_drew1 HB7.out).trans (hb8.mono HB7.out.size)); have F8 := Lib.hid ((show Ents w7.drew (.slice a5 l.length cap5) l from Ents.drew E7.out 1).keep hb8); have d8 := keepcT hb8 d7; have c8 := keepcT hb8 c7; have X8 := Lib.hid ((show Rows w7.drew _ _ _ _ from Rows.drew X7.out 1).keep hb8); clear hown8 hb8)
    | (go_at_call 27; (with_reducible refine (HQ.out _ _ _ F8.out G8.out).mono ?_); rintro e w9 ⟨rfl, hb9⟩; have HB9 := Lib.hid (HB8.out.trans (hb9.mono HB8.out.size)); have X9 := Lib.hid (X8.out.keep hb9); have d9 := keepcT hb9 d8; have c9 := keepcT hb9 c8; clear hb9))
  go_wp2_with (first
    | (go_at_call 28; (with_reducible refine (eqIntS_same _ _ o _ X10.out Y10.out hol2).mono ?_); rintro e w11 ⟨rfl, hd⟩; have HB11 := Lib.hid (HB10.out.trans (hd.below.mono HB10.out.size)); clear hd)
    | (go_at_call 25; (with_reducible refine (HI.out _ (HO.out.keep HB9.out)).mono ?_); rintro e w10 ⟨x10, rfl, hown10, hb10⟩; obtain ⟨a10, c10, rfl⟩ := row_formD hown10; have Y10 := Lib.hid (Rows.of_own hown10); have HB10 := Lib.hid (HB9.out.trans (hb10.mono HB9.out.size)); have X10 := Lib.hid (X9.out.keep hb10); clear hown10 hb10))
  go_ret
  exact ⟨rfl, HB11.out⟩

namespace fnExactLookup
open Go.ChangeShapes Go.WideShapes Go.ChangeAt Go.RowKit
open Go.ChangeMaps (open_string shut_string)
set_option linter.unusedVariables false
theorem own : ownKnob Tryd.prog.godebug = none := by kernel_rfl
theorem laidOut : laidOutB Tryd.prog = true := by kernel_rfl
set_option maxRecDepth 100000 in
theorem lifted (os : Os) (started : os.Started) (H : Type) (enc : TypeId × Value → H) :
    ReturnsInHanded {} Tryd.checked os 6 .any (fun w args => (Rows.fnExactLookupSpec.pre enc Tryd.prog Tryd.f6 Rows.fnExactLookupRow.domain false w args ∧ laidMetH Tryd.prog Rows.fnExactLookupRow.laid w) ∧ sizedMet enc Tryd.prog Tryd.f6 (OpenSpec.ofChange Rows.fnExactLookupSpec) false w args)
      (Rows.fnExactLookupSpec.post enc Tryd.prog Tryd.f6 false true false false) := by
  refine returnsInHanded_and_shaped (C := Tryd.checked) (X := fun w _ => laidMetH Tryd.prog Rows.fnExactLookupRow.laid w) (fun _ _ _ hh h => h.of_heap hh) own started (by kernel_rfl) Tryd.func6
    (ChangeSpec.witness_shaped (enc := enc) (C := Tryd.checked) (os := os) (X := fun w _ => laidMetH Tryd.prog Rows.fnExactLookupRow.laid w) false (World.laidAll Tryd.prog os Rows.fnExactLookupRow.laid) #[.agg #[.slice none 0 0], .slice none 0 0] 8 (World.laidAll_os _ _ _)
      (World.shaped_of_ZipB (by kernel_rfl) (by kernel_rfl)) (by kernel_rfl) (by kernel_rfl) (by kernel_rfl)
      (by rw [MakeChecks.laidMetH_plain _ _ _ (by kernel_rfl)]; exact laidMet_laidAll _ (by kernel_rfl) (by kernel_rfl))) ?_
  intro W base args ds gs before hval0 hW hcnd _ hL hsh _
  have hM := Go.Proofs.cell_of_shapedOpen_int (g := 0) (zero := #[.int .i64 0]) (t := 3) hsh (of_decide_eq_true (by kernel_rfl)) (by kernel_rfl) rfl (by kernel_rfl) (by kernel_rfl) Tryd.underlying3
  have hval : ∀ (j : Nat) t v, Tryd.f6.params[j]? = some t → args[j]? = some v → Value.okWide Tryd.prog W .any base t v := hval0
  have hW' := hW
  obtain ⟨p, q, hA0, hV, rfl, hfz, hnd⟩ := hW
  have hA : DataW.TrodAll enc Tryd.prog W 0 (fun _ => true) true Tryd.f6.params.toList args.toList ds p := hA0
  rw [Tryd.params6] at hA hval
  obtain ⟨v0, vs0, d0, ds0, p0, q0, hargs, rfl, rfl, h0, r0⟩ := trodAll_cons hA
  obtain ⟨v1, vs1, d1, ds1, p1, q1, rfl, rfl, rfl, h1, r1⟩ := trodAll_cons r0
  obtain ⟨rfl, rfl, rfl⟩ := trodAll_nil r1
  obtain rfl : args = #[v0, v1] := by cases args; simp_all
  obtain ⟨rfl, rfl⟩ := trodVars_none hV
  have k0 := h0
  have lt0 : ∀ x ∈ p0, x.block < W.heap.size := by obtain ⟨m, hm⟩ := k0; exact DataW.trod_lt m _ _ _ hm
  obtain ⟨a0, w0⟩ := (fun W v hv h => open_dictR (w := W) (v := v) Tryd.underlying43 (by kernel_rfl) (by kernel_rfl) rfl Tryd.underlying41 Tryd.underlying130 (by kernel_rfl) rfl rfl (by kernel_rfl) (by kernel_rfl) Tryd.underlying44 Tryd.underlying3 (by kernel_rfl) Tryd.underlying9 hv h) W v0 (hval 0 43 v0 rfl rfl) h0
  have k1 := h1
  have lt1 : ∀ x ∈ p1, x.block < W.heap.size := by obtain ⟨m, hm⟩ := k1; exact DataW.trod_lt m _ _ _ hm
  obtain ⟨a1, w1⟩ := (fun W v hv h => open_intsR (w := W) (v := v) Tryd.underlying44 Tryd.underlying3 (by kernel_rfl) hv h) W v1 (hval 1 44 v1 rfl rfl) h1
  clear hA0 hval0
  refine (FnExactLookup_walk v0 a0 v1 a1 W hM w0 w1).mono fun e W' ⟨he, bel⟩ => ?_
  subst he
  exact ⟨_, rfl, _, _, _, [], _, [], hW', trodAll_mk1 (shut_bool Tryd.underlying4 _), (trodAll_cons_mk (Below.trod laidOut (by kernel_rfl) (of_decide_eq_true (by kernel_rfl)) k0 bel lt0) (trodAll_cons_mk (Below.trod laidOut (by kernel_rfl) (of_decide_eq_true (by kernel_rfl)) k1 bel lt1) trodAll_mk0)), rfl, bel.frame _, fun h => by cases h⟩
theorem over : Rows.FnExactLookupSaid :=
  OpenClaim.holds_of_wide 6 Tryd.f6 rfl rfl rfl rfl rfl rfl rfl ⟨rfl, rfl, rfl, rfl, rfl⟩ rfl rfl rfl rfl rfl (by kernel_rfl) Tryd.func6 (by kernel_rfl)
    (of_decide_eq_true (by kernel_rfl)) (by unfold Func.isWrapper; first | (rw [if_pos (by decide +kernel)]; kernel_rfl) | (rw [if_neg (by decide +kernel)]; exact ⟨rfl, rfl⟩))
    (fun os started H enc _ => lifted os started H enc)
theorem proved : Rows.FnExactLookupCardSaid :=
  Claim7.holds_tied_plain_at .later [] [.data, .pinned] true (true, "1f8f0c85c300649092abfbcb60f9a6f3196fdad1edea147c06f8110ae969081f") true over (fun _ h => by cases h) (by kernel_rfl) (fun _ h => by cases h) fnExactLookup_row_tie rfl ⟨rfl, rfl⟩ (by kernel_rfl) rfl
    (fun f fn hf hfn => by
      obtain rfl : f = 6 := Option.some.inj ((show Tryd.prog.funcNamed "loop.example/g00882/laws.FnExactLookup" = some 6 by kernel_rfl).symm.trans hf) |>.symm
      obtain rfl : fn = Tryd.f6 := (Option.some.inj (Tryd.func6.symm.trans hfn)).symm
      exact ⟨by kernel_rfl, fun j t ht => by
        rw [Tryd.params6] at ht
        have hm : t ∈ [43, 44] := by simpa using Array.mem_of_getElem? ht
        have hall : ([43, 44].all fun u => !Tryd.prog.wantsStandIn u) = true := by kernel_rfl
        exact (show Tryd.prog.wantsStandIn t = false by simpa using List.all_eq_true.1 hall t hm)⟩)
    (by kernel_rfl)
#print axioms proved
end fnExactLookup

end Go.Proofs.YtfjdbchffhbidaaDoor
