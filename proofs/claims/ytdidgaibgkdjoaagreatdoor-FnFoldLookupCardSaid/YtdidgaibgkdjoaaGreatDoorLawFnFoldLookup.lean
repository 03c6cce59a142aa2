/-
  THE CLAIM: the law FnFoldLookup returns true for every code, and its argument reads afterwards as before. Conditions: the given row's own (the listed tables of the library read as the program's text lays them; the card ties them).
-/
import Derived.Test.YtdidgaibgkdjoaaGreatDoorDrawLF
import Derived.Test.YtdidgaibgkdjoaaGreatDoorPlainFL
import Derived.Test.YtdidgaibgkdjoaaGreatDoorLookF
import Derived.Test.YtdidgaibgkdjoaaGreatDoorLookS
import Derived.Test.YtdidgaibgkdjoaaGreatDoorOpenB
import Derived.Test.YtdidgaibgkdjoaaGreatDoorFctFnFoldLookup
import Derived.Test.YtdidgaibgkdjoaaGreatDoorBasA
import Derived.Test.YtdidgaibgkdjoaaGreatDoorTie
import Derived.Test.YtdidgaibgkdjoaaGreatDoorCards
import Derived.Deep.DeepCutAuto
import Derived.Test.YtdidgaibgkdjoaaGreatDoorRows
import Derived.ProofKit
import Derived.OpenShut
import Derived.ShutString
import Derived.ChangeOld
import Derived.Below
import Derived.WalkSmall
namespace Go.Proofs.YtdidgaibgkdjoaaGreatDoor
open Go.RowKit

theorem bto {b w0 : World} (h : Below w0.heap.size w0 b) {c : World} (hb : Below b.heap.size b c) : Below w0.heap.size w0 c := h.trans (hb.mono h.size)
theorem look_size {l : List Ent} (h : LooseD l) (o : List Int) : (lookOut l o).size ≤ 1048576 := by
  unfold lookOut
  split
  · unfold Pl.textD
    split
    · rename_i p hp
      have := (h p (List.mem_of_find?_eq_some hp)).2
      omega
    · exact Nat.zero_le _
  · exact Nat.zero_le _
theorem unfold_le (l : List Int) (k : Int) (t : ByteArray) (h : l.length ≤ 100) : (Pl.unfoldOut l k t).length ≤ 1048576 := by
  unfold Pl.unfoldOut
  split
  · rename_i h1
    simp only [Pl.unfoldOk, Bool.and_eq_true] at h1
    rw [Pl.withLast_length _ _ (Pl.outline_len h1.1.1).1]; omega
  · simp

set_option maxRecDepth 20000 in
set_option maxHeartbeats 3200000 in
theorem FnFoldLookup_walk (v : Value) (l : List Int) (w : World) (hm : ∃ m, w.cell? ⟨0, 0, none⟩ = some (.int .i64 m)) (h : Rows w v l.length 1 (u8s l) ∧ allByte l) :
    Calls Tryz.prog 5 #[v] w fun e w' => e = .returned (.bool true) ∧ Below w.heap.size w w' := by
  have HCa : Code8 w v := ⟨l, h.2, h.1⟩
  obtain ⟨ar, cap, rfl, hcap, hmax, _, _, _⟩ := h.1
  unfold maxLen at hmax
  clear h
  by_cases hbig : 65536 < l.length
  · go_enter Tryz.func5, Tryz.ntmps5
    go_wp2_with ((go_at_call 25; go_in))
    go_ret
    exact ⟨rfl, (by repeat (first | with_reducible exact Below.refl _ _ | with_reducible assumption | with_reducible refine Below.alloc ?_ ?_ _ | with_reducible refine Below.setCell ?_ ?_ _ | with_reducible refine Below.drew ?_ | with_reducible refine below_drewN ?_ _ | with_reducible refine Below.trans ?_ (Below.mono (by assumption) ?_) | omega | ((repeat (first | rw [World.size_alloc] | rw [size_setCell] | rw [size_drewN] | rw [size_drew])); omega) | exact Nat.le_refl _ | (dsimp only; omega) | (simp [World.setCell]; omega)))⟩
  have HC0 := Lib.hid HCa
  have HM := Lib.hid hm; clear hm
  go_enter Tryz.func5, Tryz.ntmps5
  go_upto_region 4 with (first | (go_at_call 25; go_in) | (go_at_call 26; refine (DrawLookupFolded_any _ _ HC0.out).mono ?_; rintro e w1 ⟨dv, L, fv, F, ov, o, rfl, hE, hL, hS, hF, hF2, hO, hol, hb⟩; obtain ⟨ad, cd, rfl, _, _⟩ := ent_form hE; have B0 := Lib.hid hb; have E0 := Lib.hid hE; have F0 := Lib.hid hF; have O0 := Lib.hid hO; have HS := Lib.hid hS; have HF2 := Lib.hid hF2.2; clear hb hE hF hO hS))
  clear HCa hbig hmax hcap HC0
  have hfit : FoldsFit F := ⟨by omega, fun p hp => by have := HF2.out p hp; omega⟩
  have hsz : ∀ p ∈ L, p.1.length ≤ 1048576 ∧ p.2.size ≤ 1048576 := fun p hp => by have := HS.out p hp; omega
  have HI := Lib.hid (fun W h1 h2 h3 h4 => LookupFolded_any (.slice ad L.length cd) fv ov L F o W h1 (by omega) hsz h2 hfit h3 (by omega) h4)
  have HIs := Lib.hid (fun W h1 h2 h3 => specLookupFolded_any (.slice ad L.length cd) fv ov L F o W h1 (by omega) hsz h2 hfit h3 (by omega))
  have HL := Lib.hid (fun W h1 h2 h3 => Lookup_any (.slice ad L.length cd) ov L o W h1 (by omega) hsz h2 h3)
  have HLu := Lib.hid (fun (u : Value) (q : List Int) W h1 h2 h3 => Lookup_any (.slice ad L.length cd) u L q W h1 (by omega) hsz h2 h3)
  have HC := fl_cases L F o
  have B1 := Lib.hid (bto B0.out (Joins.below_alloc1 w1 (.cells #[.slice ad L.length cd] 26)))
  have E1 := Lib.hid (E0.out.keep (Joins.below_alloc1 w1 (.cells #[.slice ad L.length cd] 26)))
  have FR1 := Lib.hid (F0.out.keep (Joins.below_alloc1 w1 (.cells #[.slice ad L.length cd] 26)))
  have OR1 := Lib.hid (O0.out.keep (Joins.below_alloc1 w1 (.cells #[.slice ad L.length cd] 26)))
  have M1 := Lib.hid (max_keepT HM.out B1.out)
  have c1 : (w1.alloc (.cells #[.slice ad L.length cd] 26)).cell? ⟨w1.heap.size, 0, none⟩ = some (.slice ad L.length cd) := by rw [World.cell?_alloc_mark]; rfl
  clear B0 E0 F0 O0 hfit hsz HM
  generalize w1.alloc (.cells #[.slice ad L.length cd] 26) = y1 at B1 E1 FR1 OR1 M1 c1 ⊢
  generalize w1.heap.size = b3 at c1 ⊢
  have Q1 := Lib.hid (Below.refl y1.heap.size y1)
  rcases HC with hno | ⟨t, he, hk, ht⟩ | ⟨t, j, hj, he, hk, h1, h2, h3, h4⟩
  · generalize lfOut L F o = r at HI HIs hno
    obtain ⟨rt, rj, rk⟩ := r
    dsimp only at HI HIs hno
    subst hno
    clear HL HLu
    go_wp2_with (first
      | (go_at_call 28; have hx := Q2; (with_reducible refine (HIs.out _ (E1.out.keep Q2.out) (FR1.out.keep Q2.out) (OR1.out.keep Q2.out)).mono ?_); rintro e y3 ⟨rfl, hb⟩; have Q3 := Lib.hid (bto Q2.out hb); have c3 := keepcP hb c2; clear hb hx)
      | (go_at_call 27; have hx := Q1; (with_reducible refine (HI.out _ (E1.out.keep Q1.out) (FR1.out.keep Q1.out) (OR1.out.keep Q1.out) (max_keepT M1.out Q1.out)).mono ?_); rintro e y2 ⟨rfl, hb⟩; have Q2 := Lib.hid (bto Q1.out hb); have c2 := keepcP hb c1; clear hb hx))
    go_ret
    exact ⟨rfl, B1.out.trans (Q3.out.mono B1.out.size)⟩
  · rw [he] at HI HIs
    dsimp only at HI HIs
    rw [hk, ht] at HL
    clear HLu he hk ht
    go_wp2_with (first
      | (go_at_call 14; have hx := Q3; (with_reducible refine (HL.out _ (E1.out.keep Q3.out) (OR1.out.keep Q3.out) (max_keepT M1.out Q3.out)).mono ?_); rintro e y4 ⟨rfl, hb⟩; have Q4 := Lib.hid (bto Q3.out hb); have c4 := keepcP hb c3; clear hb hx)
      | (go_at_call 28; have hx := Q2; (with_reducible refine (HIs.out _ (E1.out.keep Q2.out) (FR1.out.keep Q2.out) (OR1.out.keep Q2.out)).mono ?_); rintro e y3 ⟨rfl, hb⟩; have Q3 := Lib.hid (bto Q2.out hb); have c3 := keepcP hb c2; clear hb hx)
      | (go_at_call 27; have hx := Q1; (with_reducible refine (HI.out _ (E1.out.keep Q1.out) (FR1.out.keep Q1.out) (OR1.out.keep Q1.out) (max_keepT M1.out Q1.out)).mono ?_); rintro e y2 ⟨rfl, hb⟩; have Q2 := Lib.hid (bto Q1.out hb); have c2 := keepcP hb c1; clear hb hx))
    go_ret
    exact ⟨rfl, B1.out.trans (Q4.out.mono B1.out.size)⟩
  · rw [he] at HI HIs
    dsimp only at HI HIs
    rw [hk] at HL
    generalize lookOut L o = s0 at HL
    clear he hk
    have hj0 : (0 : Int) ≤ (j : Int) := by omega
    have hj1 : (j : Int) < (F.length : Int) := by omega
    have hjn : ¬ (j : Int) < 0 := by omega
    have hF2 := HF2.out _ (List.getElem_mem hj)
    obtain ⟨af, cf, rfl, _, _, _, _, hfc⟩ := FR1.out
    obtain ⟨bf, of, rfl, k1, k2⟩ := fold_cells hfc j hj
    clear hfc
    generalize F[j] = f at h1 h2 h3 h4 hF2 k1 k2
    obtain ⟨fk, ft⟩ := f
    dsimp only at h1 h2 h3 h4 hF2 k1 k2
    have K1 := Lib.hid k1; have K2 := Lib.hid k2; clear k1 k2
    have HU := Lib.hid (fun W h => Unfold_any ov o fk ft W h (by omega) (by unfold maxLen; omega))
    have hqu := unfold_le o fk ft (by omega)
    have hlu := look_size HS.out (Pl.unfoldOut o fk ft)
    rw [h1] at HU
    generalize Pl.unfoldOut o fk ft = q at HU hqu hlu h2 h3 h4
    have HLq := Lib.hid (fun (u : Value) W h1 h2 h3 => HLu.out u q W h1 h2 h3)
    rw [h2] at HLq
    generalize lookOut L q = s1 at HLq hlu h3 h4
    have HT := Lib.hid (fun W h => FoldedText_any s1 fk ft W hlu (by omega) h)
    rw [h3, h4] at HT
    clear HLu h1 h2 h3 h4 hqu
    go_wp2_with (first
      | (go_at_call 30; have hx := Q6; (with_reducible refine (HT.out _ (max_keepT M1.out Q6.out)).mono ?_); rintro e y7 ⟨rfl, hb⟩; have Q7 := Lib.hid (bto Q6.out hb); have c7 := keepcP hb c6; clear hb hx)
      | (go_at_call 14; have hx := Q5; (with_reducible refine (HLq.out _ _ (E1.out.keep Q5.out) R5.out (max_keepT M1.out Q5.out)).mono ?_); rintro e y6 ⟨rfl, hb⟩; have Q6 := Lib.hid (bto Q5.out hb); have c6 := keepcP hb c5; have d3 := keepcP Q6.out K1.out; have d4 := keepcP Q6.out K2.out; clear hb hx)
      | (go_at_call 29; have hx := Q4; (with_reducible refine (HU.out _ (OR1.out.keep Q4.out)).mono ?_); rintro e y5 ⟨v5, rfl, hown, hb⟩; have Q5 := Lib.hid (bto Q4.out hb); have c5 := keepcP hb c4; have R5 := Lib.hid (Rows.of_own hown); clear hown d1 d2; clear hb hx)
      | (go_at_call 14; have hx := Q3; (with_reducible refine (HL.out _ (E1.out.keep Q3.out) (OR1.out.keep Q3.out) (max_keepT M1.out Q3.out)).mono ?_); rintro e y4 ⟨rfl, hb⟩; have Q4 := Lib.hid (bto Q3.out hb); have c4 := keepcP hb c3; have d1 := keepcP Q4.out K1.out; have d2 := keepcP Q4.out K2.out; clear hb hx)
      | (go_at_call 28; have hx := Q2; (with_reducible refine (HIs.out _ (E1.out.keep Q2.out) (FR1.out.keep Q2.out) (OR1.out.keep Q2.out)).mono ?_); rintro e y3 ⟨rfl, hb⟩; have Q3 := Lib.hid (bto Q2.out hb); have c3 := keepcP hb c2; clear hb hx)
      | (go_at_call 27; have hx := Q1; (with_reducible refine (HI.out _ (E1.out.keep Q1.out) (FR1.out.keep Q1.out) (OR1.out.keep Q1.out) (max_keepT M1.out Q1.out)).mono ?_); rintro e y2 ⟨rfl, hb⟩; have Q2 := Lib.hid (bto Q1.out hb); have c2 := keepcP hb c1; clear hb hx))
    go_ret
    exact ⟨rfl, B1.out.trans (Q7.out.mono B1.out.size)⟩

namespace fnFoldLookup
open Go.ChangeShapes Go.WideShapes Go.ChangeAt Go.RowKit
open Go.ChangeMaps (open_string shut_string)
set_option linter.unusedVariables false
theorem own : ownKnob Tryz.prog.godebug = none := by kernel_rfl
theorem laidOut : laidOutB Tryz.prog = true := by kernel_rfl
set_option maxRecDepth 100000 in
theorem lifted (os : Os) (started : os.Started) (H : Type) (enc : TypeId × Value → H) :
    ReturnsInHanded {} Tryz.checked os 5 .any (fun w args => (Rows.fnFoldLookupSpec.pre enc Tryz.prog Tryz.f5 Rows.fnFoldLookupRow.domain false w args ∧ laidMetH Tryz.prog Rows.fnFoldLookupRow.laid w) ∧ sizedMet enc Tryz.prog Tryz.f5 (OpenSpec.ofChange Rows.fnFoldLookupSpec) false w args)
      (Rows.fnFoldLookupSpec.post enc Tryz.prog Tryz.f5 false true false false) := by
  refine returnsInHanded_and_shaped (C := Tryz.checked) (X := fun w _ => laidMetH Tryz.prog Rows.fnFoldLookupRow.laid w) (fun _ _ _ hh h => h.of_heap hh) own started (by kernel_rfl) Tryz.func5
    (ChangeSpec.witness_shaped (enc := enc) (C := Tryz.checked) (os := os) (X := fun w _ => laidMetH Tryz.prog Rows.fnFoldLookupRow.laid w) false (World.laidAll Tryz.prog os Rows.fnFoldLookupRow.laid) #[.slice none 0 0] 8 (World.laidAll_os _ _ _)
      (World.shaped_of_ZipB (by kernel_rfl) (by kernel_rfl)) (by kernel_rfl) (by kernel_rfl) (by kernel_rfl)
      (by rw [MakeChecks.laidMetH_plain _ _ _ (by kernel_rfl)]; exact laidMet_laidAll _ (by kernel_rfl) (by kernel_rfl))) ?_
  intro W base args ds gs before hval0 hW hcnd _ hL hsh _
  have hM := Go.Proofs.cell_of_shapedOpen_int (g := 0) (zero := #[.int .i64 0]) (t := 3) hsh (of_decide_eq_true (by kernel_rfl)) (by kernel_rfl) rfl (by kernel_rfl) (by kernel_rfl) Tryz.underlying3
  have hval : ∀ (j : Nat) t v, Tryz.f5.params[j]? = some t → args[j]? = some v → Value.okWide Tryz.prog W .any base t v := hval0
  have hW' := hW
  obtain ⟨p, q, hA0, hV, rfl, hfz, hnd⟩ := hW
  have hA : DataW.TrodAll enc Tryz.prog W 0 (fun _ => true) true Tryz.f5.params.toList args.toList ds p := hA0
  rw [Tryz.params5] at hA hval
  obtain ⟨v0, vs0, d0, ds0, p0, q0, hargs, rfl, rfl, h0, r0⟩ := trodAll_cons hA
  obtain ⟨rfl, rfl, rfl⟩ := trodAll_nil r0
  obtain rfl : args = #[v0] := by cases args; simp_all
  obtain ⟨rfl, rfl⟩ := trodVars_none hV
  have k0 := h0
  have lt0 : ∀ x ∈ p0, x.block < W.heap.size := by obtain ⟨m, hm⟩ := k0; exact DataW.trod_lt m _ _ _ hm
  obtain ⟨a0, w0⟩ := (fun W v hv h => open_bytesR (w := W) (v := v) Tryz.underlying22 Tryz.underlying5 (by kernel_rfl) hv h) W v0 (hval 0 22 v0 rfl rfl) h0
  clear hA0 hval0
  refine (FnFoldLookup_walk v0 a0 W hM w0).mono fun e W' ⟨he, bel⟩ => ?_
  subst he
  exact ⟨_, rfl, _, _, _, [], _, [], hW', trodAll_mk1 (shut_bool Tryz.underlying4 _), (trodAll_cons_mk (Below.trod laidOut (by kernel_rfl) (of_decide_eq_true (by kernel_rfl)) k0 bel lt0) trodAll_mk0), rfl, bel.frame _, fun h => by cases h⟩
theorem over : Rows.FnFoldLookupSaid :=
  OpenClaim.holds_of_wide 5 Tryz.f5 rfl rfl rfl rfl rfl rfl rfl ⟨rfl, rfl, rfl, rfl, rfl⟩ rfl rfl rfl rfl rfl (by kernel_rfl) Tryz.func5 fctFnFoldLookup
    (of_decide_eq_true (by kernel_rfl)) (by unfold Func.isWrapper; first | (rw [if_pos (by decide +kernel)]; kernel_rfl) | (rw [if_neg (by decide +kernel)]; exact ⟨rfl, rfl⟩))
    (fun os started H enc _ => lifted os started H enc)
end fnFoldLookup

end Go.Proofs.YtdidgaibgkdjoaaGreatDoor
