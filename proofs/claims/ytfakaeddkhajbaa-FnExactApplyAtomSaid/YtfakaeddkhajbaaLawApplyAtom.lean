/-
  THE CLAIM: the law FnExactApplyAtom returns true for every input, and its arguments read afterwards as before. Conditions: none beyond the given statement's own.
-/
import Derived.Test.YtfakaeddkhajbaaStLaw
import Derived.ProofKit
import Derived.OpenShut
import Derived.ShutString
import Derived.ChangeOld
import Derived.Below
import Derived.WalkSmall
import Derived.Test.YtfakaeddkhajbaaOpen
namespace Go.Proofs.Ytfakaeddkhajbaa
open Go.RowKit

set_option maxRecDepth 20000 in
set_option maxHeartbeats 1600000 in
theorem FnExactApplyAtom_walk (t : ByteArray) (j g : Bool) (c k : Int) (a : Int) (x : ByteArray) (w : World) (ht : t.size ≤ maxLen) (_hc : (Lit.int .i64 c).wf = true) (_hk : (Lit.int .i64 k).wf = true) (_ha : (Lit.int .i64 a).wf = true) (hx : x.size ≤ maxLen) :
    Calls Try.prog 8 #[.agg #[.string t, .bool j, .bool g, .int .i64 c, .int .i64 k], .agg #[.int .i64 a, .string x]] w fun e w' => e = .returned (.bool true) ∧ Below w.heap.size w w' := by
  have K0 := Lib.hid (laid2 w t j g c k a x 54 56)
  have B0 := Lib.hid (laid2_below w (.cells #[.string t, .bool j, .bool g, .int .i64 c, .int .i64 k] 54) (.cells #[.int .i64 a, .string x] 56))
  by_cases hs1 : (1048576 : Int) < (t.size : Int)
  · go_enter Try.func8, Try.ntmps8
    go_wp2_with (go_at_call 44; refine (szState_any _ _ _ _ _ _ _ ht (by omega) (by omega)).mono ?_; rintro e w1 ⟨he, hb1⟩; rw [if_pos hs1] at he; subst he)
    go_ret
    exact ⟨rfl, B0.out.trans (hb1.mono B0.out.size)⟩
  by_cases hs2 : (1048576 : Int) - (t.size : Int) < (x.size : Int)
  · go_enter Try.func8, Try.ntmps8
    go_wp2_with (first | (go_at_call 44; refine (szState_any _ _ _ _ _ _ _ ht (by omega) (by omega)).mono ?_; rintro e w1 ⟨he, hb1⟩; rw [if_neg (by omega)] at he; subst he; have K1 := Lib.hid (K0.out.keep hb1); have B1 := Lib.hid (B0.out.trans (hb1.mono B0.out.size)); obtain ⟨_, _, _, _, _, a0, a1⟩ := K1.out.cells; clear hb1) | (go_at_call 45; refine (szAtom_any _ _ _ _ hx (by omega) (by omega)).mono ?_; rintro e w2 ⟨he, hb2⟩; rw [if_pos hs2] at he; subst he))
    go_ret
    exact ⟨rfl, B1.out.trans (hb2.mono B1.out.size)⟩
  have HI := Lib.hid (fun W => ApplyAtom_any t j g c k a x W ht hx)
  have HS := Lib.hid (fun W => specApplyAtom_any t j g c k a x W ht hx)
  generalize Pl.apOut ⟨t, j, g, c, k⟩ a x = r at HI HS
  generalize Pl.apOk ⟨t, j, g, c, k⟩ a x = ok at HI HS
  obtain ⟨t', j', g', c', k'⟩ := r
  dsimp only at HI HS
  go_enter Try.func8, Try.ntmps8
  go_upto_region 8 with (first | (go_at_call 44; refine (szState_any _ _ _ _ _ _ _ ht (by omega) (by omega)).mono ?_; rintro e w1 ⟨he, hb1⟩; rw [if_neg (by omega)] at he; subst he; have K1 := Lib.hid (K0.out.keep hb1); have B1 := Lib.hid (B0.out.trans (hb1.mono B0.out.size)); obtain ⟨_, _, _, _, _, a0, a1⟩ := K1.out.cells; clear hb1) | (go_at_call 45; refine (szAtom_any _ _ _ _ hx (by omega) (by omega)).mono ?_; rintro e w2 ⟨he, hb2⟩; rw [if_neg (by omega)] at he; subst he; have K2 := Lib.hid (K1.out.keep hb2); have B2 := Lib.hid (B1.out.trans (hb2.mono B1.out.size)); clear hb2 a0 a1))
  clear hs1 hs2 ht hx
  go_cut [6, 7] (fun s6 s7 wx => ∃ b : Nat, s6 = .pointer (some ⟨b, 0, none⟩) ∧ s7 = .bool ok ∧ St wx b ⟨t', j', g', c', k'⟩ ∧ Two wx w.heap.size ⟨t, j, g, c, k⟩ a x ∧ Below w.heap.size w wx)
  case first =>
    have LA := World.block_lt_of_cell? _ _ K2.out.2.1
    have LA : w.heap.size + 1 < w2.heap.size := LA
    go_region_held3 (fun w' => w'.cell? ⟨w.heap.size, 0, none⟩ = some (.string t) ∧ w'.cell? ⟨w.heap.size, 1, none⟩ = some (.bool j) ∧ w'.cell? ⟨w.heap.size, 2, none⟩ = some (.bool g) ∧ w'.cell? ⟨w.heap.size, 3, none⟩ = some (.int .i64 c) ∧ w'.cell? ⟨w.heap.size, 4, none⟩ = some (.int .i64 k) ∧ w'.cell? ⟨w.heap.size + 1, 0, none⟩ = some (.int .i64 a) ∧ w'.cell? ⟨w.heap.size + 1, 1, none⟩ = some (.string x)) (first | with_reducible exact (K5.out.alloc _).cells | with_reducible exact K5.out.cells | with_reducible exact (K5.out.grown (St.set Z5.out ⟨t', j', g', c', k'⟩).2 (by omega) (by omega)).cells | with_reducible exact (K4.out.alloc _).cells | with_reducible exact K4.out.cells | with_reducible exact (K3.out.alloc _).cells | with_reducible exact K3.out.cells | with_reducible exact (K2.out.drew.alloc _).cells | with_reducible exact (K2.out.alloc _).drew.cells | with_reducible exact K2.out.drew.cells) (first
    | (go_at_call 46; refine (HS.out _).mono ?_; rintro e p5 ⟨rfl, hb5⟩; have K5 := Lib.hid (by first | with_reducible exact K4.out.keep hb5 | with_reducible exact (K4.out.alloc _).keep hb5); have B5 := Lib.hid (by first | with_reducible exact below_nx B4.out hb5 | with_reducible exact below_nx (B4.out.alloc B4.out.size _) hb5); skip; (try (with_reducible have Z5 := Lib.hid (newZ hb5))); (try (with_reducible have Z5 := Lib.hid (Z4.out.keep hb5))); clear hb5; (try (obtain ⟨n0, n1, n2, n3, n4, nf⟩ := Z5.out; dsimp only at n0 n1 n2 n3 n4; unfold thawed at nf)))
    | (go_at_call 48; have hx := OI; refine (toAtom_any _ _ _).mono ?_; rintro e p4 ⟨rfl, hb4⟩; have K4 := Lib.hid (by first | with_reducible exact K3.out.keep hb4 | with_reducible exact (K3.out.alloc _).keep hb4); have B4 := Lib.hid (by first | with_reducible exact below_nx B3.out hb4 | with_reducible exact below_nx (B3.out.alloc B3.out.size _) hb4); skip; (try (with_reducible have Z4 := Lib.hid (newZ hb4))); (try (with_reducible have Z4 := Lib.hid (Z3.out.keep hb4))); have L4 : w.heap.size + 1 < p4.heap.size := World.block_lt_of_cell? _ _ K4.out.2.1; clear OI hx hb4)
    | (go_at_call 47; have hx := OF; refine (toState_any _ _ _ _ _ _).mono ?_; rintro e p4 ⟨rfl, hb4⟩; have K4 := Lib.hid (by first | with_reducible exact K3.out.keep hb4 | with_reducible exact (K3.out.alloc _).keep hb4); have B4 := Lib.hid (by first | with_reducible exact below_nx B3.out hb4 | with_reducible exact below_nx (B3.out.alloc B3.out.size _) hb4); skip; (try (with_reducible have Z4 := Lib.hid (newZ hb4))); (try (with_reducible have Z4 := Lib.hid (Z3.out.keep hb4))); have L4 : w.heap.size + 1 < p4.heap.size := World.block_lt_of_cell? _ _ K4.out.2.1; clear OF hx hb4)
    | (go_at_call 48; refine (toAtom_any _ _ _).mono ?_; rintro e p3 ⟨rfl, hb3⟩; have OF := Lib.hid trivial; have K3 := Lib.hid (by first | with_reducible exact K2.out.drew.keep hb3 | with_reducible exact (K2.out.alloc _).drew.keep hb3); have B3 := Lib.hid (by first | with_reducible exact below_nx (below_drew1 B2.out) hb3 | with_reducible exact below_nx (below_drew1 (B2.out.alloc B2.out.size _)) hb3); skip; (try (with_reducible have Z3 := Lib.hid (newZd hb3))); have L3 : w.heap.size + 1 < p3.heap.size := World.block_lt_of_cell? _ _ K3.out.2.1; clear hb3)
    | (go_at_call 47; refine (toState_any _ _ _ _ _ _).mono ?_; rintro e p3 ⟨rfl, hb3⟩; have OI := Lib.hid trivial; have K3 := Lib.hid (by first | with_reducible exact K2.out.drew.keep hb3 | with_reducible exact (K2.out.alloc _).drew.keep hb3); have B3 := Lib.hid (by first | with_reducible exact below_nx (below_drew1 B2.out) hb3 | with_reducible exact below_nx (below_drew1 (B2.out.alloc B2.out.size _)) hb3); skip; (try (with_reducible have Z3 := Lib.hid (newZd hb3))); have L3 : w.heap.size + 1 < p3.heap.size := World.block_lt_of_cell? _ _ K3.out.2.1; clear hb3))
    all_goals go_wp2_with fail
    all_goals go_meet
    all_goals (case rel => first | with_reducible exact ⟨_, rfl, rfl, St.new _ _ _ _ _ _ _, K5.out.alloc _, B5.out.alloc B5.out.size _⟩ | (have hs := St.set Z5.out ⟨t', j', g', c', k'⟩; with_reducible exact ⟨_, rfl, rfl, hs.1, K5.out.grown hs.2 (by omega) (by omega), below_into B5.out hs.2 (by omega)⟩))
  obtain ⟨b, rfl, rfl, hq1, hk1, hb1⟩ := hcut
  have Q1 := Lib.hid hq1; have K6 := Lib.hid hk1; have B6 := Lib.hid hb1
  clear hq1 hk1 hb1
  go_upto_region 9 with fail
  go_cut [8, 9] (fun s8 s9 wx => ∃ b' : Nat, s8 = .pointer (some ⟨b', 0, none⟩) ∧ s9 = .bool ok ∧ St wx b' ⟨t', j', g', c', k'⟩ ∧ St wx b ⟨t', j', g', c', k'⟩ ∧ Below w.heap.size w wx)
  case first =>
    have LA := World.block_lt_of_cell? _ _ K6.out.2.1
    have LA : w.heap.size + 1 < wc.heap.size := LA
    go_region_held3 (fun w' => w'.cell? ⟨w.heap.size, 0, none⟩ = some (.string t) ∧ w'.cell? ⟨w.heap.size, 1, none⟩ = some (.bool j) ∧ w'.cell? ⟨w.heap.size, 2, none⟩ = some (.bool g) ∧ w'.cell? ⟨w.heap.size, 3, none⟩ = some (.int .i64 c) ∧ w'.cell? ⟨w.heap.size, 4, none⟩ = some (.int .i64 k) ∧ w'.cell? ⟨w.heap.size + 1, 0, none⟩ = some (.int .i64 a) ∧ w'.cell? ⟨w.heap.size + 1, 1, none⟩ = some (.string x)) (first | with_reducible exact (K5.out.alloc _).cells | with_reducible exact K5.out.cells | with_reducible exact (K5.out.grown (St.set Z5.out ⟨t', j', g', c', k'⟩).2 (by omega) (by omega)).cells | with_reducible exact (K4.out.alloc _).cells | with_reducible exact K4.out.cells | with_reducible exact (K3.out.alloc _).cells | with_reducible exact K3.out.cells | with_reducible exact (K6.out.drew.alloc _).cells | with_reducible exact (K6.out.alloc _).drew.cells | with_reducible exact K6.out.drew.cells) (first
    | (go_at_call 49; refine (HI.out _).mono ?_; rintro e p5 ⟨rfl, hb5⟩; have K5 := Lib.hid (by first | with_reducible exact K4.out.keep hb5 | with_reducible exact (K4.out.alloc _).keep hb5); have B5 := Lib.hid (by first | with_reducible exact below_nx B4.out hb5 | with_reducible exact below_nx (B4.out.alloc B4.out.size _) hb5); have Q5 := Lib.hid (by first | with_reducible exact Q4.out.keep hb5 | with_reducible exact (Q4.out.alloc _).keep hb5); (try (with_reducible have Z5 := Lib.hid (newZ hb5))); (try (with_reducible have Z5 := Lib.hid (Z4.out.keep hb5))); clear hb5; (try (obtain ⟨n0, n1, n2, n3, n4, nf⟩ := Z5.out; dsimp only at n0 n1 n2 n3 n4; unfold thawed at nf)))
    | (go_at_call 48; have hx := OI; refine (toAtom_any _ _ _).mono ?_; rintro e p4 ⟨rfl, hb4⟩; have K4 := Lib.hid (by first | with_reducible exact K3.out.keep hb4 | with_reducible exact (K3.out.alloc _).keep hb4); have B4 := Lib.hid (by first | with_reducible exact below_nx B3.out hb4 | with_reducible exact below_nx (B3.out.alloc B3.out.size _) hb4); have Q4 := Lib.hid (by first | with_reducible exact Q3.out.keep hb4 | with_reducible exact (Q3.out.alloc _).keep hb4); (try (with_reducible have Z4 := Lib.hid (newZ hb4))); (try (with_reducible have Z4 := Lib.hid (Z3.out.keep hb4))); have L4 : w.heap.size + 1 < p4.heap.size := World.block_lt_of_cell? _ _ K4.out.2.1; clear OI hx hb4)
    | (go_at_call 47; have hx := OF; refine (toState_any _ _ _ _ _ _).mono ?_; rintro e p4 ⟨rfl, hb4⟩; have K4 := Lib.hid (by first | with_reducible exact K3.out.keep hb4 | with_reducible exact (K3.out.alloc _).keep hb4); have B4 := Lib.hid (by first | with_reducible exact below_nx B3.out hb4 | with_reducible exact below_nx (B3.out.alloc B3.out.size _) hb4); have Q4 := Lib.hid (by first | with_reducible exact Q3.out.keep hb4 | with_reducible exact (Q3.out.alloc _).keep hb4); (try (with_reducible have Z4 := Lib.hid (newZ hb4))); (try (with_reducible have Z4 := Lib.hid (Z3.out.keep hb4))); have L4 : w.heap.size + 1 < p4.heap.size := World.block_lt_of_cell? _ _ K4.out.2.1; clear OF hx hb4)
    | (go_at_call 48; refine (toAtom_any _ _ _).mono ?_; rintro e p3 ⟨rfl, hb3⟩; have OF := Lib.hid trivial; have K3 := Lib.hid (by first | with_reducible exact K6.out.drew.keep hb3 | with_reducible exact (K6.out.alloc _).drew.keep hb3); have B3 := Lib.hid (by first | with_reducible exact below_nx (below_drew1 B6.out) hb3 | with_reducible exact below_nx (below_drew1 (B6.out.alloc B6.out.size _)) hb3); have Q3 := Lib.hid (by first | with_reducible exact Q1.out.drew.keep hb3 | with_reducible exact (Q1.out.alloc _).drew.keep hb3); (try (with_reducible have Z3 := Lib.hid (newZd hb3))); have L3 : w.heap.size + 1 < p3.heap.size := World.block_lt_of_cell? _ _ K3.out.2.1; clear hb3)
    | (go_at_call 47; refine (toState_any _ _ _ _ _ _).mono ?_; rintro e p3 ⟨rfl, hb3⟩; have OI := Lib.hid trivial; have K3 := Lib.hid (by first | with_reducible exact K6.out.drew.keep hb3 | with_reducible exact (K6.out.alloc _).drew.keep hb3); have B3 := Lib.hid (by first | with_reducible exact below_nx (below_drew1 B6.out) hb3 | with_reducible exact below_nx (below_drew1 (B6.out.alloc B6.out.size _)) hb3); have Q3 := Lib.hid (by first | with_reducible exact Q1.out.drew.keep hb3 | with_reducible exact (Q1.out.alloc _).drew.keep hb3); (try (with_reducible have Z3 := Lib.hid (newZd hb3))); have L3 : w.heap.size + 1 < p3.heap.size := World.block_lt_of_cell? _ _ K3.out.2.1; clear hb3))
    all_goals go_wp2_with fail
    all_goals go_meet
    all_goals (case rel => first | with_reducible exact ⟨_, rfl, rfl, St.new _ _ _ _ _ _ _, Q5.out.alloc _, B5.out.alloc B5.out.size _⟩ | (have hs := St.set Z5.out ⟨t', j', g', c', k'⟩; have l1 := Q1.out.lt; have l3 := Q3.out.lt; have l4 := Q4.out.lt; with_reducible exact ⟨_, rfl, rfl, hs.1, Q5.out.grown hs.2 (by omega), below_into B5.out hs.2 (by omega)⟩))
  obtain ⟨b', rfl, rfl, hq2, hq3, hb2⟩ := hcut
  have B7 := Lib.hid hb2
  obtain ⟨c0, c1, c2, c3, c4, _⟩ := hq2
  obtain ⟨d0, d1, d2, d3, d4, _⟩ := hq3
  dsimp only at c0 c1 c2 c3 c4 d0 d1 d2 d3 d4
  clear hb2 Q1 K6 B6
  go_wp2_with (go_at_call 50; refine (eqState_same _ _ _ _ _ _).mono ?_; rintro e w9 ⟨rfl, hb9⟩)
  go_ret
  exact ⟨rfl, B7.out.trans (hb9.mono B7.out.size)⟩

namespace fnExactApplyAtom
open Go.ChangeShapes Go.WideShapes Go.ChangeAt Go.RowKit
open Go.ChangeMaps (open_string shut_string)
set_option linter.unusedVariables false
theorem own : ownKnob Try.prog.godebug = none := by kernel_rfl
theorem laidOut : laidOutB Try.prog = true := by kernel_rfl
set_option maxRecDepth 100000 in
theorem lifted (os : Os) (started : os.Started) (H : Type) (enc : TypeId × Value → H) :
    ReturnsInHanded {} Try.checked os 8 .any (Rows.fnExactApplyAtomSpec.pre6 enc Try.prog Try.f8 Rows.fnExactApplyAtomRow.domain false) (Rows.fnExactApplyAtomSpec.post enc Try.prog Try.f8 false true false false) := by
  refine returnsInHanded_of_change (C := Try.checked) own started (by kernel_rfl) Try.func8
    (ChangeSpec.witness6 (enc := enc) (C := Try.checked) false ⟨#[], #[.agg #[.string ⟨#[]⟩, .bool false, .bool false, .int .i64 0, .int .i64 0], .agg #[.int .i64 0, .string ⟨#[]⟩]], []⟩ 8 (by kernel_rfl) (by kernel_rfl) (by kernel_rfl) (by kernel_rfl)) ?_
  intro W base args ds gs before hval0 hW hcnd _
  have hval : ∀ (j : Nat) t v, Try.f8.params[j]? = some t → args[j]? = some v → Value.okWide Try.prog W .any base t v := hval0
  have hW' := hW
  obtain ⟨p, q, hA0, hV, rfl, hfz, hnd⟩ := hW
  have hA : DataW.TrodAll enc Try.prog W 0 (fun _ => true) true Try.f8.params.toList args.toList ds p := hA0
  rw [Try.params8] at hA hval
  obtain ⟨v0, vs0, d0, ds0, p0, q0, hargs, rfl, rfl, h0, r0⟩ := trodAll_cons hA
  obtain ⟨v1, vs1, d1, ds1, p1, q1, rfl, rfl, rfl, h1, r1⟩ := trodAll_cons r0
  obtain ⟨rfl, rfl, rfl⟩ := trodAll_nil r1
  obtain rfl : args = #[v0, v1] := by cases args; simp_all
  obtain ⟨rfl, rfl⟩ := trodVars_none hV
  have k0 := h0
  have lt0 : ∀ x ∈ p0, x.block < W.heap.size := by obtain ⟨m, hm⟩ := k0; exact DataW.trod_lt m _ _ _ hm
  obtain ⟨cs0, rfl, hl0, m0, hg0⟩ := open_agg Try.underlying54 (by kernel_rfl) (by kernel_rfl) (hval 0 54 v0 rfl rfl) h0
  obtain ⟨c0a, y0a, g0a, t0a⟩ := hg0 0 _ rfl
  obtain ⟨a0a, e0a, _, w0a⟩ := DataW.trod_string Try.underlying9 t0a
  simp only [List.cons.injEq, and_true] at e0a; subst e0a
  obtain ⟨c0b, y0b, g0b, t0b⟩ := hg0 1 _ rfl
  obtain ⟨a0b, e0b, _⟩ := DataW.trod_bool Try.underlying4 t0b
  simp only [List.cons.injEq, and_true] at e0b; subst e0b
  obtain ⟨c0c, y0c, g0c, t0c⟩ := hg0 2 _ rfl
  obtain ⟨a0c, e0c, _⟩ := DataW.trod_bool Try.underlying4 t0c
  simp only [List.cons.injEq, and_true] at e0c; subst e0c
  obtain ⟨c0d, y0d, g0d, t0d⟩ := hg0 3 _ rfl
  obtain ⟨a0d, e0d, _, w0d⟩ := DataW.trod_int Try.underlying3 t0d
  simp only [List.cons.injEq, and_true] at e0d; subst e0d
  obtain ⟨c0e, y0e, g0e, t0e⟩ := hg0 4 _ rfl
  obtain ⟨a0e, e0e, _, w0e⟩ := DataW.trod_int Try.underlying3 t0e
  simp only [List.cons.injEq, and_true] at e0e; subst e0e
  obtain rfl := list5 hl0 g0a g0b g0c g0d g0e
  have k1 := h1
  have lt1 : ∀ x ∈ p1, x.block < W.heap.size := by obtain ⟨m, hm⟩ := k1; exact DataW.trod_lt m _ _ _ hm
  obtain ⟨cs1, rfl, hl1, m1, hg1⟩ := open_agg Try.underlying56 (by kernel_rfl) (by kernel_rfl) (hval 1 56 v1 rfl rfl) h1
  obtain ⟨c1a, y1a, g1a, t1a⟩ := hg1 0 _ rfl
  obtain ⟨a1a, e1a, _, w1a⟩ := DataW.trod_int Try.underlying3 t1a
  simp only [List.cons.injEq, and_true] at e1a; subst e1a
  obtain ⟨c1b, y1b, g1b, t1b⟩ := hg1 1 _ rfl
  obtain ⟨a1b, e1b, _, w1b⟩ := DataW.trod_string Try.underlying9 t1b
  simp only [List.cons.injEq, and_true] at e1b; subst e1b
  obtain rfl := list2 hl1 g1a g1b
  clear hA0 hval0
  refine (FnExactApplyAtom_walk a0a a0b a0c a0d a0e a1a a1b W w0a w0d w0e w1a w1b).mono fun e W' ⟨he, bel⟩ => ?_
  subst he
  exact ⟨_, rfl, _, _, _, [], _, [], hW', trodAll_mk1 (shut_bool Try.underlying4 _), (trodAll_cons_mk (Below.trod laidOut (by kernel_rfl) (of_decide_eq_true (by kernel_rfl)) k0 bel lt0) (trodAll_cons_mk (Below.trod laidOut (by kernel_rfl) (of_decide_eq_true (by kernel_rfl)) k1 bel lt1) trodAll_mk0)), rfl, bel.frame _, fun h => by cases h⟩
theorem over : Rows.fnExactApplyAtomRow.holds Try.pinned (OpenSpec.ofChange Rows.fnExactApplyAtomSpec) :=
  OpenClaim.holds_of_wide 8 Try.f8 rfl rfl rfl rfl rfl rfl rfl ⟨rfl, rfl, rfl, rfl, rfl⟩ rfl rfl rfl rfl rfl (by kernel_rfl) Try.func8 (by kernel_rfl)
    (of_decide_eq_true (by kernel_rfl)) (by unfold Func.isWrapper; first | (rw [if_pos (by decide +kernel)]; kernel_rfl) | (rw [if_neg (by decide +kernel)]; exact ⟨rfl, rfl⟩))
    (fun os started H enc _ => lifted os started H enc)
theorem proved : Rows.FnExactApplyAtomSaid := over
#print axioms proved
end fnExactApplyAtom

end Go.Proofs.Ytfakaeddkhajbaa
