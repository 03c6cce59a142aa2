/-
  THE CLAIM: the law FnRender returns true for every code, and its argument reads afterwards as before. Conditions: none beyond the given statement's own.
-/
import Derived.Test.YtkbbcmbeafjpaabRendL
import Derived.Test.YtkbbcmbeafjpaabOpenB
import Derived.Deep.DeepCutAuto
import Derived.Test.YtkbbcmbeafjpaabRows
import Derived.ProofKit
import Derived.OpenShut
import Derived.ShutString
import Derived.ChangeOld
import Derived.Below
import Derived.WalkSmall
import Derived.Test.YtkbbcmbeafjpaabOpen
namespace Go.Proofs.Ytkbbcmbeafjpaab
open Go.RowKit

theorem Rows.alloc {w : World} {v : Value} {n size : Nat} {xs : List Value} (h : Rows w v n size xs) (o : Obj) : Rows (w.alloc o) v n size xs := h.keep ((Below.refl _ _).alloc (Nat.le_refl _) o)
theorem row_formR {w : World} {base size n : Nat} {e : TypeId} {v : Value} {xs : List Value} (h : w.ownsRow base e size v n xs) : ∃ ao co, v = .slice ao n co := by
  rcases h.2 with ⟨rfl, rfl⟩ | ⟨g, c', u', rfl, _⟩
  · exact ⟨none, 0, rfl⟩
  · exact ⟨_, _, rfl⟩
theorem below_n1 {w X Y : World} {n : Nat} (h : Below n w X) (hn : n ≤ X.heap.size) (hb : Below X.heap.size X Y) : Below n w Y := h.trans (hb.mono hn)
theorem NewState_none (w : World) :
    Calls Try.prog 16 #[.string ⟨#[]⟩] w fun e w' => e = .returned (.tuple #[.agg #[.string ⟨#[]⟩, .bool true, .bool false, .int .i64 0, .int .i64 0], .bool true]) ∧ Below w.heap.size w w' := by
  have h := NewState_any ⟨#[]⟩ w (Nat.zero_le _)
  have e0 : Pl.newOk ⟨#[]⟩ = true := by decide
  have e1 : Pl.newText ⟨#[]⟩ = ⟨#[]⟩ := by unfold Pl.newText; rw [e0]; rfl
  have e2 : Pl.newJoined ⟨#[]⟩ = true := by unfold Pl.newJoined; rw [e0, Pl.none_empty]; rfl
  have e3 : Pl.newWord ⟨#[]⟩ = 0 := by unfold Pl.newWord; rw [e0]; rfl
  rw [e0, e1, e2, e3] at h
  exact h
theorem JoinStrings_none (a : Option Addr) (cap : Nat) (w : World) :
    Calls Try.prog 20 #[.slice a 0 cap, .string ⟨#[32]⟩] w fun e w' => e = .returned (.tuple #[.string ⟨#[]⟩, .bool false]) ∧ w' = w := by
  go_enter Try.func20, Try.ntmps20
  go_wp2
  go_ret2
  exact ⟨rfl, rfl⟩

set_option maxRecDepth 20000 in
set_option maxHeartbeats 3200000 in
theorem FnRender_walk (v : Value) (l : List Int) (w : World) (h : Rows w v l.length 1 (u8s l) ∧ allByte l) :
    Calls Try.prog 4 #[v] w fun e w' => e = .returned (.bool true) ∧ Below w.heap.size w w' := by
  have HCa : Code8 w v := ⟨l, h.2, h.1⟩
  obtain ⟨ar, cap, rfl, hcap, hmax, _, _, _⟩ := h.1
  unfold maxLen at hmax
  clear h
  by_cases hbig : 65536 < l.length
  · go_enter Try.func4, Try.ntmps4
    go_wp2_with ((go_at_call 12; go_in))
    go_ret
    exact ⟨rfl, (by repeat (first | with_reducible exact Below.refl _ _ | with_reducible assumption | with_reducible refine Below.alloc ?_ ?_ _ | with_reducible refine Below.setCell ?_ ?_ _ | with_reducible refine Below.drew ?_ | with_reducible refine below_drewN ?_ _ | with_reducible refine Below.trans ?_ (Below.mono (by assumption) ?_) | omega | ((repeat (first | rw [World.size_alloc] | rw [size_setCell] | rw [size_drewN] | rw [size_drew])); omega) | exact Nat.le_refl _ | (dsimp only; omega) | (simp [World.setCell]; omega)))⟩
  have HC0 := Lib.hid HCa
  go_enter Try.func4, Try.ntmps4
  go_upto_region 4 with (first | (go_at_call 12; go_in) | (go_at_call 13; refine (DrawRender_any _ _ HC0.out).mono ?_; rintro e w1 ⟨lv, la, rfl, hown, hl, hsm, hb⟩; have HC1 := Lib.hid (HC0.out.keep hb); have HR1 := Lib.hid (Rows.of_own hown); have B1 := Lib.hid hb; clear hb hown))
  clear HCa hbig hmax hcap HC0
  have HM := Lib.hid (fun p hp => Nat.le_trans (Pl.atomOk_prt (hsm p hp)).2 (by unfold maxLen; omega) : ∀ p ∈ la, p.2.size ≤ maxLen)
  have HW := Lib.hid (Pl.wds_words (l := la) hsm)
  clear hsm
  obtain ⟨al, cl, rfl, hal1, hal2, _, _, _⟩ := HR1.out
  have HIa := Lib.hid (fun W h => Render_any (.slice al la.length cl) la W h HM.out)
  have HSa := Lib.hid (fun W h => specRender_any (.slice al la.length cl) la W h HM.out)
  have HAp := Lib.hid (fun W h => ApplyAtoms_any ⟨#[]⟩ true false 0 0 (.slice al la.length cl) la W (Nat.zero_le _) h HM.out)
  have E : Hid (Pl.renderOut la = (Pl.apsOut ⟨⟨#[]⟩, true, false, 0, 0⟩ la).t ∧ Pl.renderOk la = Pl.apsOk ⟨⟨#[]⟩, true, false, 0, 0⟩ la) := Lib.hid ⟨rfl, rfl⟩
  rw [E.out.1, E.out.2] at HIa HSa
  clear E
  generalize Pl.apsOut ⟨⟨#[]⟩, true, false, 0, 0⟩ la = r at HIa HSa HAp
  generalize Pl.apsOk ⟨⟨#[]⟩, true, false, 0, 0⟩ la = ok at HIa HSa HAp
  obtain ⟨rt, rj, rg, rc, rk⟩ := r
  dsimp only at HIa HSa HAp
  have Q1 := Lib.hid (Below.refl w1.heap.size w1)
  go_upto_region 10 with (first
    | (go_at_call 17; have hx := R4; (with_reducible refine (HAp.out _ (R4.out.alloc _)).mono ?_); rintro e w5 ⟨rfl, hb⟩; have Q5 := Lib.hid (below_n1 (Q4.out.alloc Q4.out.size _) (Q4.out.alloc Q4.out.size _).size hb); clear hx hb R4 Q4)
    | (go_at_call 16; have hx := Q3; refine (NewState_none _).mono ?_; rintro e w4 ⟨rfl, hb⟩; have Q4 := Lib.hid (below_n1 Q3.out Q3.out.size hb); have R4 := Lib.hid (HR1.out.keep Q4.out); clear hx hb Q3)
    | (go_at_call 15; have hx := Q2; (with_reducible refine (HSa.out _ (HR1.out.keep Q2.out)).mono ?_); rintro e w3 ⟨rfl, hb⟩; have Q3 := Lib.hid (below_n1 Q2.out Q2.out.size hb); clear hx hb Q2)
    | (go_at_call 14; have hx := Q1; (with_reducible refine (HIa.out _ HR1.out).mono ?_); rintro e w2 ⟨rfl, hb⟩; have Q2 := Lib.hid (below_n1 Q1.out Q1.out.size hb); clear hx hb Q1))
  go_cut [71] (fun s71 wx => s71 = .bool false ∧ Below w1.heap.size w1 wx)
  case first =>
    cases ok
    all_goals go_wp2_with fail
    all_goals go_meet
    all_goals (case rel => exact ⟨rfl, Q5.out.alloc Q5.out.size _⟩)
  obtain ⟨rfl, hb⟩ := hcut
  have Q6 := Lib.hid hb; clear hb HIa HSa HAp Q5
  have C6 := Lib.hid (HC1.out.keep Q6.out)
  go_upto_region 13 with (go_at_call 18; refine (DrawNewState_any _ _ C6.out).mono ?_; rintro e w7 ⟨t, rfl, ht, hb⟩; have Q7 := Lib.hid (below_n1 Q6.out Q6.out.size hb); clear hb)
  have ht2 : t.size ≤ maxLen := by unfold maxLen; omega
  have HN := Lib.hid (fun W => NewState_any t W ht2)
  have HN2 := Lib.hid (fun W => specNewState_any t W ht2)
  generalize Pl.newText t = nt at HN HN2
  generalize Pl.newJoined t = nj at HN HN2
  generalize Pl.newWord t = nk at HN HN2
  generalize Pl.newOk t = nok at HN HN2
  clear ht ht2 Q6 C6
  go_upto_region 17 with (first
    | (go_at_call 19; have hx := Q8; (with_reducible refine (HN2.out _).mono ?_); rintro e w9 ⟨rfl, hb⟩; have Q9 := Lib.hid (below_n1 (Q8.out.alloc Q8.out.size _) (Q8.out.alloc Q8.out.size _).size hb); have A9 := Lib.hid ((St.new w8 nt nj false 0 nk 37).keep hb); clear hx hb; have lta := A9.out.lt; obtain ⟨a0, a1, a2, a3, a4, _⟩ := A9.out; dsimp only at a0 a1 a2 a3 a4)
    | (go_at_call 16; (with_reducible refine (HN.out _).mono ?_); rintro e w8 ⟨rfl, hb⟩; have Q8 := Lib.hid (below_n1 Q7.out Q7.out.size hb); clear hb Q7))
  clear HN HN2 a0 a1 a2 a3 a4 lta A9
  have QA := Lib.hid (Q9.out.alloc Q9.out.size (.cells #[.string nt, .bool nj, .bool false, .int .i64 0, .int .i64 nk] 37))
  clear Q9 Q8
  have OW := Lib.hid (World.ownsRow_made (base := w1.heap.size) (e := 9) (size := 1) (w9.alloc (.cells #[.string nt, .bool nj, .bool false, .int .i64 0, .int .i64 nk] 37)) #[] 0 QA.out.size (by unfold maxLen; omega) rfl)
  have QB := Lib.hid (QA.out.alloc QA.out.size (.cells #[] 9))
  have OA := Lib.hid (World.ownsRow_made (base := w1.heap.size) (e := 44) (size := 2) ((w9.alloc (.cells #[.string nt, .bool nj, .bool false, .int .i64 0, .int .i64 nk] 37)).alloc (.cells #[] 9)) #[] 0 QB.out.size (by unfold maxLen; omega) rfl)
  have OW2 := Lib.hid (OW.out.alloc (.cells #[] 44))
  have QC := Lib.hid (QB.out.alloc QB.out.size (.cells #[] 44))
  clear QA QB OW
  rw [World.size_alloc] at OW2
  rw [World.size_alloc, World.size_alloc] at OA
  go_upto_region 20 with fail
  go_loopw [17, 18, 19] (fun ws bs i wr => ∃ k : Nat, k ≤ la.length ∧ i = .int .i64 k ∧ Hid (wr.ownsRow w1.heap.size 9 1 ws (Pl.wds (la.take k)).length (strs (Pl.wds (la.take k)))) ∧ Hid (wr.ownsRow w1.heap.size 44 2 bs ((la.take k).filter Pl.isW).length (folds ((la.take k).filter Pl.isW))) ∧ Below w1.heap.size w1 wr) (fun _ _ i _ => la.length - (intOf i).toNat)
  case atStart => exact ⟨0, Nat.zero_le _, rfl, OW2, OA, QC.out⟩
  clear OW2 OA QC
  case round =>
    obtain ⟨k, hk, rfl, HO, HA, hb⟩ := hrel
    have HB := Lib.hid hb; clear hb
    have hw := Pl.wds_len la k
    have hf : ((la.take k).filter Pl.isW).length ≤ 8 := Nat.le_trans (List.length_filter_le _ _) (by rw [List.length_take]; omega)
    obtain ⟨ao, co, rfl⟩ := row_formR HO.out
    by_cases hlt : k < la.length
    · obtain ⟨al', cl', e', _, _, _, _, hcells⟩ := HR1.out
      cases e'
      obtain ⟨b, off, rfl, c10, c20⟩ := fold_cells hcells k hlt
      have hbl := World.block_lt_of_cell? _ _ c10
      have hki : (k : Int) < (la.length : Int) := by omega
      have hk0 : (0 : Int) ≤ (k : Int) := by omega
      have HN := Lib.hid (Pl.wds_next hlt)
      have HF := Lib.hid (Pl.filt_next hlt)
      generalize Pl.wds (la.take k) = m at hw HN HO
      generalize (la.take k).filter Pl.isW = q at hf HF HA
      generalize la[k] = p at c10 c20 HN HF
      obtain ⟨pa, px⟩ := p
      dsimp only at c10 c20 HN HF
      clear hcells
      have c1 := (HB.out.cell (p := ⟨b, off + k * 2, none⟩) hbl).trans c10
      have c2 := (HB.out.cell (p := ⟨b, off + k * 2 + 1, none⟩) hbl).trans c20
      by_cases hp : pa = 1
      · subst hp
        rw [if_pos rfl] at HN HF
        go_wp2_with (first
          | (at_builtin; have hx := O2; refine app_atom rfl _ _ rfl w1.heap.size _ q.length (folds q) rfl (A2.out.alloc _) ⟨_, 0, none⟩ 1 1 px rfl (atom_newsB _ 1 px _ _ rfl) (by omega) (by have := B2.out.size; rw [World.size_alloc]; omega) ?_; intro v3 w3 hown3 hg3; clear hx)
          | (at_builtin; refine app_rend rfl _ _ rfl w1.heap.size _ m.length (strs m) rfl (HO.out.alloc _) ⟨_, 0, none⟩ 1 px rfl (rend_news _ _ _ _ rfl) (by omega) (by have := HB.out.size; rw [World.size_alloc]; omega) ?_; intro v2 w2 hown2 hg2; have O2 := Lib.hid hown2; have B2 := Lib.hid ((HB.out.alloc HB.out.size (.cells #[.string px] 9)).grown hg2 (by have := HB.out.size; rw [World.size_alloc]; omega) (fun j hj => (HO.out.lt j hj).1)); have A2 := Lib.hid ((HA.out.alloc (.cells #[.string px] 9)).kept hg2 (apart_rend (HA.out) (HO.out) (by decide))); have d1 := (B2.out.cell (p := ⟨b, off + k * 2, none⟩) hbl).trans c10; have d2 := (B2.out.cell (p := ⟨b, off + k * 2 + 1, none⟩) hbl).trans c20; clear hown2 hg2))
        have O3 := Lib.hid ((O2.out.alloc (.cells #[.int .i64 1, .string px] 44)).kept hg3 (apart_rend O2.out A2.out (by decide)))
        have B3 := Lib.hid ((B2.out.alloc B2.out.size (.cells #[.int .i64 1, .string px] 44)).grown hg3 (by have := B2.out.size; rw [World.size_alloc]; omega) (fun j hj => (A2.out.lt j hj).1))
        have A3 := Lib.hid hown3
        clear HO HA HB O2 A2 B2 hown3 hg3
        go_roundw
        case rel => exact ⟨k + 1, by omega, by go_num, by rw [HN.out, List.length_append, show strs (m ++ [px]) = strs m ++ [.string px] by simp [strs]]; exact O3, by rw [HF.out, List.length_append, folds_snoc]; exact A3, B3.out⟩
        case measure => simp [intOf]; omega
      · rw [if_neg hp, List.append_nil] at HN HF
        go_wp2
        go_roundw
        case rel => exact ⟨k + 1, by omega, by go_num, by rw [HN.out]; exact HO, by rw [HF.out]; exact HA, HB.out⟩
        case measure => simp [intOf]; omega
    · obtain rfl : k = la.length := by omega
      rw [List.take_length] at HO HA hw hf ⊢
      obtain ⟨rok, rout⟩ := Pl.words_render HW.out (by omega)
      have HM2 : ∀ p ∈ la.filter Pl.isW, p.2.size ≤ maxLen := fun p hp => HM.out p (List.mem_filter.1 hp).1
      have HI2 := Lib.hid (fun W v h => Render_any v (la.filter Pl.isW) W h HM2)
      rw [rok, rout] at HI2
      have hsame : (la.filter Pl.isW).map Prod.snd = Pl.wds la := rfl
      rw [hsame] at HI2
      have HWW := Lib.hid (show ∀ x ∈ Pl.wds la, Pl.wordT x = true from fun x hx => by obtain ⟨p, hp, rfl⟩ := List.mem_map.1 hx; exact (HW.out p hp).2)
      clear HM2 rok rout hsame hf
      generalize la.filter Pl.isW = q at HA HI2 ⊢
      generalize Pl.wds la = m at HO HI2 HWW hw ⊢
      by_cases h0 : m.length = 0
      · have h1 : (m.length : Int) = 0 := by omega
        have hjs : Pl.joinS m = ⟨#[]⟩ := by rw [List.length_eq_zero_iff.1 h0]; rfl
        rw [hjs] at HI2
        have HJ0 := Lib.hid (fun W => show Calls Try.prog 20 #[.slice ao 0 co, .string ⟨#[32]⟩] W fun e w' => e = .returned (.tuple #[.string ⟨#[]⟩, .bool false]) ∧ Below W.heap.size W w' from (JoinStrings_none ao co W).mono (fun e w' h => ⟨h.1, by rw [h.2]; exact Below.refl _ _⟩))
        go_wp2_with (first
          | (go_at_call 20; have hx := B2; (with_reducible refine (HJ0.out _).mono ?_); rintro e w3 ⟨rfl, hb3⟩; have B3 := Lib.hid (below_n1 B2.out B2.out.size hb3); clear hb3 hx)
          | (go_at_call 14; (with_reducible refine (HI2.out _ _ (Rows.of_own HA.out)).mono ?_); rintro e w2 ⟨rfl, hb2⟩; have B2 := Lib.hid (below_n1 HB.out HB.out.size hb2); clear hb2))
        go_ret
        exact ⟨rfl, B1.out.trans (B3.out.mono B1.out.size)⟩
      · have h1 : ¬ (m.length : Int) = 0 := by omega
        have HJ := Lib.hid (fun W v h => JoinStrings_words v m W h HWW.out (by omega) (by omega))
        generalize Pl.joinS m = js at HJ HI2
        go_wp2_with (first
          | (go_at_call 20; have hx := B2; (with_reducible refine (HJ.out _ _ (Rows.of_own (own_keep HO.out BB.out))).mono ?_); rintro e w3 ⟨rfl, hb3⟩; have B3 := Lib.hid (below_n1 B2.out B2.out.size hb3); clear hb3 hx)
          | (go_at_call 14; (with_reducible refine (HI2.out _ _ (Rows.of_own HA.out)).mono ?_); rintro e w2 ⟨rfl, hb2⟩; have BB := Lib.hid hb2; have B2 := Lib.hid (below_n1 HB.out HB.out.size hb2); clear hb2))
        go_ret
        exact ⟨rfl, B1.out.trans (B3.out.mono B1.out.size)⟩

namespace fnRender
open Go.ChangeShapes Go.WideShapes Go.ChangeAt Go.RowKit
open Go.ChangeMaps (open_string shut_string)
set_option linter.unusedVariables false
theorem own : ownKnob Try.prog.godebug = none := by kernel_rfl
theorem laidOut : laidOutB Try.prog = true := by kernel_rfl
set_option maxRecDepth 100000 in
theorem lifted (os : Os) (started : os.Started) (H : Type) (enc : TypeId × Value → H) :
    ReturnsInHanded {} Try.checked os 4 .any (Rows.fnRenderSpec.pre6 enc Try.prog Try.f4 Rows.fnRenderRow.domain false) (Rows.fnRenderSpec.post enc Try.prog Try.f4 false true false false) := by
  refine returnsInHanded_of_change (C := Try.checked) own started (by kernel_rfl) Try.func4
    (ChangeSpec.witness6 (enc := enc) (C := Try.checked) false ⟨#[], #[.slice none 0 0], []⟩ 8 (by kernel_rfl) (by kernel_rfl) (by kernel_rfl) (by kernel_rfl)) ?_
  intro W base args ds gs before hval0 hW hcnd _
  have hval : ∀ (j : Nat) t v, Try.f4.params[j]? = some t → args[j]? = some v → Value.okWide Try.prog W .any base t v := hval0
  have hW' := hW
  obtain ⟨p, q, hA0, hV, rfl, hfz, hnd⟩ := hW
  have hA : DataW.TrodAll enc Try.prog W 0 (fun _ => true) true Try.f4.params.toList args.toList ds p := hA0
  rw [Try.params4] at hA hval
  obtain ⟨v0, vs0, d0, ds0, p0, q0, hargs, rfl, rfl, h0, r0⟩ := trodAll_cons hA
  obtain ⟨rfl, rfl, rfl⟩ := trodAll_nil r0
  obtain rfl : args = #[v0] := by cases args; simp_all
  obtain ⟨rfl, rfl⟩ := trodVars_none hV
  have k0 := h0
  have lt0 : ∀ x ∈ p0, x.block < W.heap.size := by obtain ⟨m, hm⟩ := k0; exact DataW.trod_lt m _ _ _ hm
  obtain ⟨a0, w0⟩ := (fun W v hv h => open_bytesR (w := W) (v := v) Try.underlying22 Try.underlying5 (by kernel_rfl) hv h) W v0 (hval 0 22 v0 rfl rfl) h0
  clear hA0 hval0
  refine (FnRender_walk v0 a0 W w0).mono fun e W' ⟨he, bel⟩ => ?_
  subst he
  exact ⟨_, rfl, _, _, _, [], _, [], hW', trodAll_mk1 (shut_bool Try.underlying4 _), (trodAll_cons_mk (Below.trod laidOut (by kernel_rfl) (of_decide_eq_true (by kernel_rfl)) k0 bel lt0) trodAll_mk0), rfl, bel.frame _, fun h => by cases h⟩
theorem over : Rows.fnRenderRow.holds Try.pinned (OpenSpec.ofChange Rows.fnRenderSpec) :=
  OpenClaim.holds_of_wide 4 Try.f4 rfl rfl rfl rfl rfl rfl rfl ⟨rfl, rfl, rfl, rfl, rfl⟩ rfl rfl rfl rfl rfl (by kernel_rfl) Try.func4 (by kernel_rfl)
    (of_decide_eq_true (by kernel_rfl)) (by unfold Func.isWrapper; first | (rw [if_pos (by decide +kernel)]; kernel_rfl) | (rw [if_neg (by decide +kernel)]; exact ⟨rfl, rfl⟩))
    (fun os started H enc _ => lifted os started H enc)
theorem proved : Rows.FnRenderSaid := over
#print axioms proved
end fnRender

end Go.Proofs.Ytkbbcmbeafjpaab
