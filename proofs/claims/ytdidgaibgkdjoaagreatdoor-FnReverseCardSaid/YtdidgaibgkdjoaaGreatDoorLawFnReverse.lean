/-
  THE CLAIM: the law FnReverse returns true for every code, and its argument reads afterwards as before. Conditions: the given row's own (the listed tables of the library read as the program's text lays them; the card ties them).
-/
import Derived.Test.YtdidgaibgkdjoaaGreatDoorGrB
import Derived.Test.YtdidgaibgkdjoaaGreatDoorGrF
import Derived.Test.YtdidgaibgkdjoaaGreatDoorNestS
import Derived.Test.YtdidgaibgkdjoaaGreatDoorOpenB
import Derived.Test.YtdidgaibgkdjoaaGreatDoorFctFnReverse
import Derived.Test.YtdidgaibgkdjoaaGreatDoorBasA
import Derived.Test.YtdidgaibgkdjoaaGreatDoorTie
import Derived.Test.YtdidgaibgkdjoaaGreatDoorCards
import Derived.Deep.DeepCutAuto
import Derived.Deep.QuietTactic
import Derived.BigQuiet
import Derived.Test.YtdidgaibgkdjoaaGreatDoorRows
import Derived.ProofKit
import Derived.OpenShut
import Derived.ShutString
import Derived.ChangeOld
import Derived.Below
import Derived.WalkSmall
namespace Go.Proofs.YtdidgaibgkdjoaaGreatDoor
open Go.RowKit

theorem bto {b w0 : World} (h : Below w0.heap.size w0 b) {c : World} (hb : Below b.heap.size b c) : Below w0.heap.size w0 c := h.trans (hb.mono h.size)

set_option maxHeartbeats 800000 in
theorem vInts_same (v v' : Value) (l : List Int) (w : World) (hr : Rows w v l.length 1 (ints l)) (hr' : Rows w v' l.length 1 (ints l)) (hl : l.length ≤ 1048576) :
    Calls Tryz.prog 15 #[v, v'] w fun e w' => e = .returned (.bool true) ∧ Drew w w' := by
  obtain ⟨a, cap, rfl, _, _, _, _, hcells⟩ := hr
  obtain ⟨a', cap', rfl, _, _, _, _, hcells'⟩ := hr'
  go_enter Tryz.func15, Tryz.ntmps15
  go_wp2
  go_loopw [5] (fun i wr => ∃ k : Nat, k ≤ l.length ∧ i = .int .i64 k ∧ ∃ n, wr = w.drewN n) (fun i _ => l.length - (intOf i).toNat)
  case atStart => exact ⟨0, Nat.zero_le _, rfl, 0, rfl⟩
  case round =>
    obtain ⟨k, hk, rfl, n, rfl⟩ := hrel
    by_cases hlt : k < l.length
    · obtain ⟨b, off, rfl, h1⟩ := hcells k _ (ints_at l k hlt)
      obtain ⟨b', off', rfl, h2⟩ := hcells' k _ (ints_at l k hlt)
      have hki : (k : Int) < (l.length : Int) := by omega
      go_wp2
      go_quiet (fail)
      go_wp2
      go_roundw
      case rel => exact ⟨k + 1, by omega, by go_num, _, rfl⟩
      case measure => simp [intOf]; omega
    · go_wp2
      go_ret
      exact ⟨rfl, ⟨_, rfl⟩⟩

set_option maxRecDepth 20000 in
set_option maxHeartbeats 3200000 in
theorem FnReverse_walk (v : Value) (l : List Int) (w : World) (hm : ∃ m, w.cell? ⟨0, 0, none⟩ = some (.int .i64 m)) (h : Rows w v l.length 1 (u8s l) ∧ allByte l) :
    Calls Tryz.prog 3 #[v] w fun e w' => e = .returned (.bool true) ∧ Below w.heap.size w w' := by
  have HCa : Code8 w v := ⟨l, h.2, h.1⟩
  obtain ⟨ar, cap, rfl, hcap, hmax, _, _, _⟩ := h.1
  unfold maxLen at hmax
  clear h
  by_cases hbig : 65536 < l.length
  · go_enter Tryz.func3, Tryz.ntmps3
    go_wp2_with ((go_at_call 8; go_in))
    go_ret
    exact ⟨rfl, (by repeat (first | with_reducible exact Below.refl _ _ | with_reducible assumption | with_reducible refine Below.alloc ?_ ?_ _ | with_reducible refine Below.setCell ?_ ?_ _ | with_reducible refine Below.drew ?_ | with_reducible refine below_drewN ?_ _ | with_reducible refine Below.trans ?_ (Below.mono (by assumption) ?_) | omega | ((repeat (first | rw [World.size_alloc] | rw [size_setCell] | rw [size_drewN] | rw [size_drew])); omega) | exact Nat.le_refl _ | (dsimp only; omega) | (simp [World.setCell]; omega)))⟩
  have HC0 := Lib.hid HCa
  have HM := Lib.hid hm; clear hm
  go_enter Tryz.func3, Tryz.ntmps3
  go_upto_region 4 with (first | (go_at_call 8; go_in) | (go_at_call 9; refine (DrawReverseLookup_any _ _ HC0.out).mono ?_; rintro e w1 ⟨dv, L, t, rfl, hE, hL, hS, ht, hb⟩; obtain ⟨ad, cd, rfl, _, _⟩ := ent_form hE; have B0 := Lib.hid hb; have E0 := Lib.hid hE; have HS := Lib.hid hS; clear hb hE hS))
  clear HCa hbig hmax hcap HC0
  have hsz : ∀ p ∈ L, p.1.length ≤ 1048576 ∧ p.2.size ≤ 1048576 := fun p hp => by have := HS.out p hp; omega
  have HI := Lib.hid (fun W h1 h2 => ReverseLookup_any (.slice ad L.length cd) L t W h1 (by omega) hsz h2)
  have HIs := Lib.hid (fun W h1 => specReverseLookup_any (.slice ad L.length cd) L t W h1 (by omega) hsz)
  have HG := Lib.hid (fun W h1 h2 => LongestOutline_any (.slice ad L.length cd) L W h1 (by omega) hsz h2)
  have HGs := Lib.hid (fun W h1 => specLongestOutline_any (.slice ad L.length cd) L W h1 (by omega) hsz)
  unfold RetII at HI HIs
  unfold RetLg at HG HGs
  have HLu := Lib.hid (fun (u : Value) (q : List Int) W h1 h2 h3 => Lookup_any (.slice ad L.length cd) u L q W h1 (by omega) hsz h2 h3)
  have HF1 := Lib.hid (fun p hp => (hsz p hp).1)
  have hlg : lgOut L ≤ 1048576 := by
    unfold lgOut
    split
    · exact lg_le HF1.out _ (Nat.le_refl _)
    · exact Nat.zero_le _
  have hrl : (rvOut L t).length ≤ L.length := by
    unfold rvOut
    split
    · exact rv_len _ _ _
    · exact Nat.zero_le _
  have B1 := Lib.hid (bto B0.out (Joins.below_alloc1 w1 (.cells #[.slice ad L.length cd] 26)))
  have E1 := Lib.hid (E0.out.keep (Joins.below_alloc1 w1 (.cells #[.slice ad L.length cd] 26)))
  have M1 := Lib.hid (max_keepT HM.out B1.out)
  have c1 : (w1.alloc (.cells #[.slice ad L.length cd] 26)).cell? ⟨w1.heap.size, 0, none⟩ = some (.slice ad L.length cd) := by rw [World.cell?_alloc_mark]; rfl
  clear B0 E0 hsz HM
  generalize w1.alloc (.cells #[.slice ad L.length cd] 26) = y1 at B1 E1 M1 c1 ⊢
  generalize w1.heap.size = b3 at c1 ⊢
  have Q1 := Lib.hid (Below.refl y1.heap.size y1)
  have HR := Lib.hid (show ∀ q ∈ rvOut L t, q.length ≤ 1048576 ∧ lookOk L q = true ∧ lookOut L q = t from fun q hq => by
    unfold rvOut at hq
    split at hq
    · rename_i h; exact ⟨rv_small HF1.out hq, rv_look h hq⟩
    · cases hq)
  have HX := Lib.hid (show Pl.dictOk L = true → rvOut L t = rvTo L t L.length ∧ ∀ (k : Nat) (h : k < L.length), (L[k]).1.length ≤ lgOut L from fun h => ⟨by unfold rvOut; rw [if_pos h], fun k hk => by unfold lgOut; rw [if_pos h]; exact lg_up _ k hk (Nat.le_refl _) hk⟩)
  generalize rvOut L t = R at HI HIs hrl HR HX
  generalize lgOut L = n at HG HGs hlg HX
  generalize Pl.dictOk L = y at HI HIs HG HGs HX
  go_upto_region 10 with (first
      | (go_at_call 13; have hx := Q4; (with_reducible refine (HGs.out _ (E1.out.keep Q4.out)).mono ?_); rintro e y5 ⟨rfl, hb⟩; have N2_5 := Lib.hid (N2_4.out.keep hb); have N3_5 := Lib.hid (N3_4.out.keep hb); have Q5 := Lib.hid (bto Q4.out hb); have c5 := keepcP hb c4; clear hb hx)
      | (go_at_call 12; have hx := Q3; (with_reducible refine (HG.out _ (E1.out.keep Q3.out) (max_keepT M1.out Q3.out)).mono ?_); rintro e y4 ⟨rfl, hb⟩; have N2_4 := Lib.hid (N2_3.out.keep hb); have N3_4 := Lib.hid (N3_3.out.keep hb); have Q4 := Lib.hid (bto Q3.out hb); have c4 := keepcP hb c3; clear hb hx)
      | (go_at_call 11; have hx := Q2; (with_reducible refine (HIs.out _ (E1.out.keep Q2.out)).mono ?_); rintro e y3 ⟨v3, xs3, rfl, hN, hb⟩; have N2_3 := Lib.hid (N2_2.out.keep hb); obtain ⟨a3, k3, rfl, hk3, _⟩ := nest_form hN.nests; have N3_3 := Lib.hid hN.nests; clear hN; have Q3 := Lib.hid (bto Q2.out hb); have c3 := keepcP hb c2; clear hb hx)
      | (go_at_call 10; have hx := Q1; (with_reducible refine (HI.out _ (E1.out.keep Q1.out) (max_keepT M1.out Q1.out)).mono ?_); rintro e y2 ⟨v2, xs2, rfl, hN, hb⟩; obtain ⟨a2, k2, rfl, hk2, _⟩ := nest_form hN.nests; have N2_2 := Lib.hid hN.nests; clear hN; have Q2 := Lib.hid (bto Q1.out hb); have c2 := keepcP hb c1; clear hb hx))
  clear HI HIs HG HGs
  go_wp2
  go_loopw [13] (fun i wr => ∃ k : Nat, k ≤ R.length ∧ i = .int .i64 k ∧ Below y5.heap.size y5 wr) (fun i _ => R.length - (intOf i).toNat)
  case atStart => exact ⟨0, Nat.zero_le _, rfl, Below.refl _ _⟩
  case round =>
    obtain ⟨k, hk, rfl, hb⟩ := hrel
    have HB := Lib.hid hb; clear hb
    have hc := keepcP HB.out c5
    have HEw := Lib.hid ((E1.out.keep Q5.out).keep HB.out)
    by_cases hlt : k < R.length
    · obtain ⟨b2, o2, u2, e2, d2, r2⟩ := nest_at (N2_5.out.keep HB.out) k hlt
      cases e2
      obtain ⟨b4, o4, u4, e4, d4, r4⟩ := nest_at (N3_5.out.keep HB.out) k hlt
      cases e4
      have hki : (k : Int) < (R.length : Int) := by omega
      have hk0 : (0 : Int) ≤ (k : Int) := by omega
      obtain ⟨hq1, hq2, hq3⟩ := HR.out _ (List.getElem_mem hlt)
      simp only [Nat.mul_one, Nat.add_zero] at d2 d4
      generalize R[k] = q at r2 r4 hq1 hq2 hq3
      obtain ⟨au2, cu2, rfl, _, _⟩ := rows_form r2
      obtain ⟨au4, cu4, rfl, _, _⟩ := rows_form r4
      have HLk := Lib.hid (HLu.out (.slice au2 q.length cu2) q wr.drew (show Ents wr.drew _ _ from Ents.drew HEw.out 1) (show Rows wr.drew _ _ _ _ from Rows.drew r2 1) (max_keepT (max_keepT (max_keepT M1.out Q5.out) HB.out) (below_drew1 (Below.refl wr.heap.size wr))))
      rw [hq2, hq3] at HLk
      have R2 := Lib.hid r2; have R4 := Lib.hid r4
      clear r2 r4 hq2 hq3
      go_upto_region 13 with fail
      go_region_held3 (fun w' => w'.cell? ⟨b3, 0, none⟩ = some (.slice ad L.length cd) ∧ w'.cell? ⟨b2, o2 + k, none⟩ = some (.slice au2 q.length cu2)) (first | exact ⟨e1, e2⟩ | exact ⟨hc, d2⟩) (first | (go_at_call 14; (with_reducible refine HLk.out.mono ?_); rintro e w2 ⟨rfl, hb2⟩; have e1 := keepcT hb2 hc; have e2 := keepcT hb2 d2; have e4 := keepcT hb2 d4; have HB2 := Lib.hid ((below_drew1 HB.out).trans (hb2.mono HB.out.size)); have R22 := Lib.hid ((show Rows wr.drew _ _ _ _ from R2.out).keep hb2); have R44 := Lib.hid ((show Rows wr.drew _ _ _ _ from R4.out).keep hb2); clear hb2))
      have HV := Lib.hid (fun n => vInts_same (.slice au2 q.length cu2) (.slice au4 q.length cu4) q (w2.drewN n) (show Rows (w2.drewN n) _ _ _ _ from R22.out) (show Rows (w2.drewN n) _ _ _ _ from R44.out) hq1)
      clear HLk R2 R4 hc d2 d4
      go_upto_region 14 with fail
      go_quiet ((go_at_call 15; exact Calls.quiet_of (HV.out _)))
      go_wp2
      go_roundw
      case rel => exact ⟨k + 1, by omega, by go_num, below_drewN HB2.out _⟩
      case measure => simp [intOf]; omega
    · have hki : ¬ (k : Int) < (R.length : Int) := by omega
      clear HLu HR M1 N2_5 N3_5
      cases y
      · obtain ⟨W6, rfl⟩ : ∃ W6, W6 = wr := ⟨wr, rfl⟩
        by_cases h0 : 0 < L.length
        · have h00 : (0 : Int) < (L.length : Int) := by omega
          go_wp2
          go_loopw [16, 17] (fun c i wq => c = .int .i64 0 ∧ i = .int .i64 0 ∧ wq = W6) (fun _ _ _ => 0)
          case atStart => exact ⟨rfl, rfl, rfl⟩
          case round =>
            obtain ⟨rfl, rfl, rfl⟩ := hrel
            go_wp2
            go_ret
            exact ⟨rfl, B1.out.trans ((Q5.out.trans (HB.out.mono Q5.out.size)).mono B1.out.size)⟩
        · have h00 : ¬ (0 : Int) < (L.length : Int) := by omega
          go_wp2
          go_loopw [16, 17] (fun c i wq => c = .int .i64 0 ∧ i = .int .i64 0 ∧ wq = W6) (fun _ _ _ => 0)
          case atStart => exact ⟨rfl, rfl, rfl⟩
          case round =>
            obtain ⟨rfl, rfl, rfl⟩ := hrel
            go_wp2
            go_ret
            exact ⟨rfl, B1.out.trans ((Q5.out.trans (HB.out.mono Q5.out.size)).mono B1.out.size)⟩
      · obtain ⟨hX1, hX2⟩ := HX.out (by trivial)
        have HX2 := Lib.hid hX2
        have HX1 := Lib.hid (show R.length = (rvTo L t L.length).length by rw [hX1])
        clear hX1 hX2 HX
        obtain ⟨W6, rfl⟩ : ∃ W6, W6 = wr := ⟨wr, rfl⟩
        go_wp2
        go_loopw [16, 17] (fun c i wq => ∃ m : Nat, m ≤ L.length ∧ c = .int .i64 ((rvTo L t m).length : Nat) ∧ i = .int .i64 m ∧ wq = W6) (fun _ i _ => L.length - (intOf i).toNat)
        case atStart => exact ⟨0, Nat.zero_le _, rfl, rfl, rfl⟩
        case round =>
          obtain ⟨m, hm, rfl, rfl, rfl⟩ := hrel
          have hrv := rv_len L t m
          by_cases hmt : m < L.length
          · obtain ⟨b, off, u, e, d1, d2, d3⟩ := ent_at HEw.out m hmt
            cases e
            have hmi : (m : Int) < (L.length : Int) := by omega
            have hm0 : (0 : Int) ≤ (m : Int) := by omega
            have HNO := Lib.hid (fun h => rv_no (t := t) hmt h)
            have HYES := Lib.hid (fun h => rv_yes (t := t) hmt h)
            have hn := HX2.out m hmt
            generalize L[m] = p at d1 d2 d3 HNO HYES hn
            obtain ⟨pl, pt⟩ := p
            dsimp only at d1 d2 d3 HNO HYES hn
            obtain ⟨au, cu, rfl, _, _⟩ := rows_form d3
            clear d3
            have hnn : ¬ (n : Int) < (pl.length : Int) := by omega
            generalize rvTo L t m = M at HNO HYES hrv ⊢
            by_cases hy : pt = t
            · have E := Lib.hid (show (rvTo L t (m + 1)).length = M.length + 1 by rw [HYES.out hy, List.length_append]; rfl)
              subst hy
              clear HNO HYES
              go_wp2
              go_roundw
              case rel => exact ⟨m + 1, by omega, by rw [E.out]; go_num, by go_num, by trivial⟩
              case measure => simp [intOf]; omega
            · have E := Lib.hid (HNO.out hy)
              have hyy := text_neL hy
              clear HNO HYES hy
              go_wp2
              go_roundw
              case rel => exact ⟨m + 1, by omega, by rw [E.out], by go_num, by trivial⟩
              case measure => simp [intOf]; omega
          · obtain rfl : m = L.length := by omega
            have hmi : ¬ (L.length : Int) < (L.length : Int) := by omega
            have hx1 := HX1.out
            generalize (rvTo L t L.length).length = z at hx1 ⊢
            subst hx1
            go_wp2
            go_ret
            exact ⟨rfl, B1.out.trans ((Q5.out.trans (HB.out.mono Q5.out.size)).mono B1.out.size)⟩

namespace fnReverse
open Go.ChangeShapes Go.WideShapes Go.ChangeAt Go.RowKit
open Go.ChangeMaps (open_string shut_string)
set_option linter.unusedVariables false
theorem own : ownKnob Tryz.prog.godebug = none := by kernel_rfl
theorem laidOut : laidOutB Tryz.prog = true := by kernel_rfl
set_option maxRecDepth 100000 in
theorem lifted (os : Os) (started : os.Started) (H : Type) (enc : TypeId × Value → H) :
    ReturnsInHanded {} Tryz.checked os 3 .any (fun w args => (Rows.fnReverseSpec.pre enc Tryz.prog Tryz.f3 Rows.fnReverseRow.domain false w args ∧ laidMetH Tryz.prog Rows.fnReverseRow.laid w) ∧ sizedMet enc Tryz.prog Tryz.f3 (OpenSpec.ofChange Rows.fnReverseSpec) false w args)
      (Rows.fnReverseSpec.post enc Tryz.prog Tryz.f3 false true false false) := by
  refine returnsInHanded_and_shaped (C := Tryz.checked) (X := fun w _ => laidMetH Tryz.prog Rows.fnReverseRow.laid w) (fun _ _ _ hh h => h.of_heap hh) own started (by kernel_rfl) Tryz.func3
    (ChangeSpec.witness_shaped (enc := enc) (C := Tryz.checked) (os := os) (X := fun w _ => laidMetH Tryz.prog Rows.fnReverseRow.laid w) false (World.laidAll Tryz.prog os Rows.fnReverseRow.laid) #[.slice none 0 0] 8 (World.laidAll_os _ _ _)
      (World.shaped_of_ZipB (by kernel_rfl) (by kernel_rfl)) (by kernel_rfl) (by kernel_rfl) (by kernel_rfl)
      (by rw [MakeChecks.laidMetH_plain _ _ _ (by kernel_rfl)]; exact laidMet_laidAll _ (by kernel_rfl) (by kernel_rfl))) ?_
  intro W base args ds gs before hval0 hW hcnd _ hL hsh _
  have hM := Go.Proofs.cell_of_shapedOpen_int (g := 0) (zero := #[.int .i64 0]) (t := 3) hsh (of_decide_eq_true (by kernel_rfl)) (by kernel_rfl) rfl (by kernel_rfl) (by kernel_rfl) Tryz.underlying3
  have hval : ∀ (j : Nat) t v, Tryz.f3.params[j]? = some t → args[j]? = some v → Value.okWide Tryz.prog W .any base t v := hval0
  have hW' := hW
  obtain ⟨p, q, hA0, hV, rfl, hfz, hnd⟩ := hW
  have hA : DataW.TrodAll enc Tryz.prog W 0 (fun _ => true) true Tryz.f3.params.toList args.toList ds p := hA0
  rw [Tryz.params3] at hA hval
  obtain ⟨v0, vs0, d0, ds0, p0, q0, hargs, rfl, rfl, h0, r0⟩ := trodAll_cons hA
  obtain ⟨rfl, rfl, rfl⟩ := trodAll_nil r0
  obtain rfl : args = #[v0] := by cases args; simp_all
  obtain ⟨rfl, rfl⟩ := trodVars_none hV
  have k0 := h0
  have lt0 : ∀ x ∈ p0, x.block < W.heap.size := by obtain ⟨m, hm⟩ := k0; exact DataW.trod_lt m _ _ _ hm
  obtain ⟨a0, w0⟩ := (fun W v hv h => open_bytesR (w := W) (v := v) Tryz.underlying22 Tryz.underlying5 (by kernel_rfl) hv h) W v0 (hval 0 22 v0 rfl rfl) h0
  clear hA0 hval0
  refine (FnReverse_walk v0 a0 W hM w0).mono fun e W' ⟨he, bel⟩ => ?_
  subst he
  exact ⟨_, rfl, _, _, _, [], _, [], hW', trodAll_mk1 (shut_bool Tryz.underlying4 _), (trodAll_cons_mk (Below.trod laidOut (by kernel_rfl) (of_decide_eq_true (by kernel_rfl)) k0 bel lt0) trodAll_mk0), rfl, bel.frame _, fun h => by cases h⟩
theorem over : Rows.FnReverseSaid :=
  OpenClaim.holds_of_wide 3 Tryz.f3 rfl rfl rfl rfl rfl rfl rfl ⟨rfl, rfl, rfl, rfl, rfl⟩ rfl rfl rfl rfl rfl (by kernel_rfl) Tryz.func3 fctFnReverse
    (of_decide_eq_true (by kernel_rfl)) (by unfold Func.isWrapper; first | (rw [if_pos (by decide +kernel)]; kernel_rfl) | (rw [if_neg (by decide +kernel)]; exact ⟨rfl, rfl⟩))
    (fun os started H enc _ => lifted os started H enc)
end fnReverse

end Go.Proofs.YtdidgaibgkdjoaaGreatDoor
