/-
  THE CLAIM: the law FnEditText returns true for every code, and its argument reads afterwards as before. Conditions: the given row's own (the listed tables and errors of the library lie as the program's text lays them; the card ties them).
-/
import Derived.Test.YtkbbcmbeafjpaabDoorDrawPed
import Derived.Test.YtkbbcmbeafjpaabDoorOpenB
import Derived.Test.YtkbbcmbeafjpaabDoorTied
import Derived.Test.YtkbbcmbeafjpaabDoorTie
import Derived.Test.YtkbbcmbeafjpaabDoorCards
import Derived.Test.YtkbbcmbeafjpaabDoorToldE
import Derived.Deep.DeepCutAuto
import Derived.Test.YtkbbcmbeafjpaabDoorRows
import Derived.ProofKit
import Derived.OpenShut
import Derived.ShutString
import Derived.ChangeOld
import Derived.Below
import Derived.WalkSmall
import Derived.Test.YtkbbcmbeafjpaabDoorOpen
namespace Go.Proofs.YtkbbcmbeafjpaabDoor
open Go.RowKit

theorem toldFnEditText {W : World} (h : laidMetH Tryd.prog Rows.fnEditTextRow.laid W) : Tab10 W ∧ ErrC W := toldE h
theorem Pl.feOut_len {b : Int} {t : ByteArray} : (Pl.feOut b t).size ≤ 5000 := by
  unfold Pl.feOut
  split
  · rename_i h
    obtain ⟨h0, h1, h2⟩ := Pl.validEdit_told h
    have := Pl.num_small_len h0 h1
    unfold Pl.edText
    simp only [ByteArray.size_append]
    show 1 + _ + 1 + _ ≤ 5000
    omega
  · exact Nat.zero_le _
theorem Pl.PE.size {s : ByteArray} {b : Int} {t : ByteArray} {y : Bool} (h : Pl.PE s b t y) : t.size ≤ 2000 := by
  cases y
  · obtain ⟨_, rfl, _⟩ := h.2 rfl; exact Nat.zero_le _
  · exact (Pl.validEdit_told (h.1 rfl).2).2.2

set_option maxRecDepth 20000 in
set_option maxHeartbeats 3200000 in
theorem FnEditText_walk (v : Value) (l : List Int) (w : World) (hm : (∃ m, w.cell? ⟨0, 0, none⟩ = some (.int .i64 m)) ∧ Tab10 w ∧ ErrC w) (h : Rows w v l.length 1 (u8s l) ∧ allByte l) :
    Calls Tryd.prog 4 #[v] w fun e w' => e = .returned (.bool true) ∧ Below w.heap.size w w' := by
  have HCa : Code8 w v := ⟨l, h.2, h.1⟩
  obtain ⟨ar, cap, rfl, hcap, hmax, _, _, _⟩ := h.1
  unfold maxLen at hmax
  clear h
  by_cases hbig : 65536 < l.length
  · go_enter Tryd.func4, Tryd.ntmps4
    go_wp2_with ((go_at_call 9; go_in))
    go_ret
    exact ⟨rfl, (by repeat (first | with_reducible exact Below.refl _ _ | with_reducible assumption | with_reducible refine Below.alloc ?_ ?_ _ | with_reducible refine Below.setCell ?_ ?_ _ | with_reducible refine Below.drew ?_ | with_reducible refine below_drewN ?_ _ | with_reducible refine Below.trans ?_ (Below.mono (by assumption) ?_) | omega | ((repeat (first | rw [World.size_alloc] | rw [size_setCell] | rw [size_drewN] | rw [size_drew])); omega) | exact Nat.le_refl _ | (dsimp only; omega) | (simp [World.setCell]; omega)))⟩
  obtain ⟨hm, ht, he⟩ := hm
  have HM := Lib.hid (fun W (hb : Below w.heap.size w W) => show ∃ m, W.cell? ⟨0, 0, none⟩ = some (.int .i64 m) from by obtain ⟨m, hm⟩ := hm; exact ⟨m, keepcF hb hm⟩)
  have HT := Lib.hid ht
  have HE := Lib.hid he
  have HC0 := Lib.hid HCa
  clear hm ht he
  go_enter Tryd.func4, Tryd.ntmps4
  go_upto_region 4 with (first | (go_at_call 9; go_in) | (go_at_call 10; refine (DrawFormatEdit_any _ _ HC0.out).mono ?_; rintro e w1 ⟨b, t, rfl, hb1, hb2, htz, hb⟩; have B1 := Lib.hid hb; clear hb))
  clear HCa hbig hmax hcap
  have B2 := Lib.hid (B1.out.alloc B1.out.size (.cells #[.int .i64 b, .string t] 23))
  have E2 := Lib.hid (Ed2.new w1 b t 23)
  have HFI := Lib.hid (fun W h => FormatEdit_any b t W (by unfold maxLen; omega) h)
  have HFS := Lib.hid (fun W => specFormatEdit_any b t W (by unfold maxLen; omega))
  have HFL := Lib.hid (Pl.feOut_len (b := b) (t := t))
  have HFE := Lib.hid (show Pl.feOut b t = if Pl.validEdit b t = true then Pl.edT b t else ⟨#[]⟩ from rfl)
  generalize Pl.feOut b t = s at HFI HFS HFL HFE
  generalize hok : Pl.validEdit b t = ok at HFI HFS HFE
  have HOK := Lib.hid hok
  clear hok
  go_upto_region 9 with (first
    | (go_at_call 13; have hx := B4; refine (DrawParseEdit_any _ _ (HC0.out.keep B4.out)).mono ?_; rintro e w5 ⟨p, rfl, hp, hb⟩; have B5 := Lib.hid (below_n5 B4.out hb); have E5 := Lib.hid (E4.out.keep hb); clear hb hx)
    | (go_at_call 12; have hx := B3; (with_reducible refine (HFS.out _).mono ?_); rintro e w4 ⟨rfl, hb⟩; have B4 := Lib.hid (below_n5 B3.out hb); have E4 := Lib.hid (E3.out.keep hb); have l4 := E4.out.lt; clear hb hx l3 d0 d1)
    | (go_at_call 11; (with_reducible refine (HFI.out _ (HT.out.keep B2.out)).mono ?_); rintro e w3 ⟨rfl, hb⟩; have B3 := Lib.hid (below_n5 B2.out hb); have E3 := Lib.hid (E2.out.keep hb); have l3 := E3.out.lt; obtain ⟨d0, d1, _⟩ := E3.out; clear hb))
  clear l4 E3 B3 HFI HFS E2 B2 B4 E4
  go_upto_region 10 with (go_at_call 7; refine (ParseEdit_any p _ (by omega) (HM.out _ B5.out) (HT.out.keep B5.out) (HE.out.keep B5.out)).mono ?_; rintro e w6 ⟨xb, xt, xy, rfl, hq, hb⟩; have HP := Lib.hid hq; have B6 := Lib.hid (below_n5 B5.out hb); have E6 := Lib.hid (E5.out.keep hb); clear hb hq)
  have B6a := Lib.hid (B6.out.alloc B6.out.size (.cells #[.int .i64 xb, .string xt] 23))
  have E6a := Lib.hid (E6.out.keep (Joins.below_alloc1 _ (.cells #[.int .i64 xb, .string xt] 23)))
  have X6a := Lib.hid (Ed2.new w6 xb xt 23)
  go_upto_region 11 with (go_at_call 6; refine (specParseEdit_any p _ (by omega)).mono ?_; rintro e w7 ⟨b', t', y', rfl, hq, hb⟩; obtain ⟨e1, e2, e3⟩ := hq.unique HP.out; subst e1; subst e2; subst e3; have B7 := Lib.hid (below_n5 B6a.out hb); have E7 := Lib.hid (E6a.out.keep hb); have X7 := Lib.hid (X6a.out.keep hb); clear hb hq)
  have B7a := Lib.hid (B7.out.alloc B7.out.size (.cells #[.int .i64 b', .string t'] 23))
  have E7a := Lib.hid (E7.out.keep (Joins.below_alloc1 _ (.cells #[.int .i64 b', .string t'] 23)))
  have X7a := Lib.hid (X7.out.keep (Joins.below_alloc1 _ (.cells #[.int .i64 b', .string t'] 23)))
  clear E5 B5 B6 E6 B6a E6a X6a B7 E7
  have l7 := X7.out.lt
  obtain ⟨d0, d1, _⟩ := X7.out
  have hfl := HFL.out
  go_upto_region 14 with (go_at_call 7; refine (ParseEdit_any s _ (by omega) (HM.out _ B7a.out) (HT.out.keep B7a.out) (HE.out.keep B7a.out)).mono ?_; rintro e w8 ⟨pb, pt, py, rfl, hq, hb⟩; have HP2 := Lib.hid hq; have B8 := Lib.hid (below_n5 B7a.out hb); have E8 := Lib.hid (E7a.out.keep hb); have X8 := Lib.hid (X7a.out.keep hb); clear hb hq)
  clear l7 d0 d1 X7 X7a E7a B7a
  have B8a := Lib.hid (B8.out.alloc B8.out.size (.cells #[.int .i64 pb, .string pt] 23))
  have E8a := Lib.hid (E8.out.keep (Joins.below_alloc1 _ (.cells #[.int .i64 pb, .string pt] 23)))
  have P8a := Lib.hid (Ed2.new w8 pb pt 23)
  have l8 := X8.out.lt
  obtain ⟨d0, d1, _⟩ := X8.out
  have hxs := Pl.PE.size HP.out
  have HGI := Lib.hid (fun W h => FormatEdit_any b' t' W (by unfold maxLen; omega) h)
  have HGE := Lib.hid (show Pl.feOut b' t' = if Pl.validEdit b' t' = true then Pl.edT b' t' else ⟨#[]⟩ from rfl)
  generalize Pl.feOut b' t' = g at HGI HGE
  generalize hvg : Pl.validEdit b' t' = gok at HGI HGE
  have HVG := Lib.hid hvg
  clear hvg
  go_upto_region 15 with (go_at_call 11; (with_reducible refine (HGI.out _ (HT.out.keep B8a.out)).mono ?_); rintro e w9 ⟨rfl, hb⟩; have B9 := Lib.hid (below_n5 B8a.out hb); have E9 := Lib.hid (E8a.out.keep hb); have P9 := Lib.hid (P8a.out.keep hb); clear hb)
  clear l8 d0 d1 B8 B8a E8 E8a P8a X8 HGI HM HT HE
  -- what the texts say
  have H1 : Hid (ok = true → py = true ∧ pb = b ∧ pt = t) := Lib.hid (fun ho => by
    have e := HFE.out
    rw [ho, if_pos rfl] at e
    obtain ⟨a1, a2, a3⟩ := HP2.out.unique (Pl.PE.good e (HOK.out.trans ho))
    exact ⟨a3, a1, a2⟩)
  have H2 : Hid (y' = true → gok = true ∧ g = p) := Lib.hid (fun hy => by
    obtain ⟨a1, a2⟩ := HP.out.1 hy
    have a3 : gok = true := HVG.out.symm.trans a2
    refine ⟨a3, ?_⟩
    have e := HGE.out
    rw [a3, if_pos rfl] at e
    exact e.trans a1.symm)
  have l1 := E9.out.lt
  have l2 := P9.out.lt
  obtain ⟨q0, q1, _⟩ := E9.out
  obtain ⟨r0, r1, _⟩ := P9.out
  cases ok
  · cases y'
    · go_wp2
      go_ret
      exact ⟨rfl, B9.out⟩
    · obtain ⟨rfl, rfl⟩ := H2.out rfl
      go_wp2
      go_ret
      exact ⟨rfl, B9.out⟩
  · obtain ⟨rfl, rfl, rfl⟩ := H1.out rfl
    cases y'
    · go_wp2
      go_ret
      exact ⟨rfl, B9.out⟩
    · obtain ⟨rfl, rfl⟩ := H2.out rfl
      go_wp2
      go_ret
      exact ⟨rfl, B9.out⟩

namespace fnEditText
open Go.ChangeShapes Go.WideShapes Go.ChangeAt Go.RowKit
open Go.ChangeMaps (open_string shut_string)
set_option linter.unusedVariables false
theorem own : ownKnob Tryd.prog.godebug = none := by kernel_rfl
theorem laidOut : laidOutB Tryd.prog = true := by kernel_rfl
set_option maxRecDepth 100000 in
theorem lifted (os : Os) (started : os.Started) (H : Type) (enc : TypeId × Value → H) :
    ReturnsInHanded {} Tryd.checked os 4 .any (fun w args => (Rows.fnEditTextSpec.pre enc Tryd.prog Tryd.f4 Rows.fnEditTextRow.domain false w args ∧ laidMetH Tryd.prog Rows.fnEditTextRow.laid w) ∧ sizedMet enc Tryd.prog Tryd.f4 (OpenSpec.ofChange Rows.fnEditTextSpec) false w args)
      (Rows.fnEditTextSpec.post enc Tryd.prog Tryd.f4 false true false false) := by
  refine returnsInHanded_and_shaped (C := Tryd.checked) (X := fun w _ => laidMetH Tryd.prog Rows.fnEditTextRow.laid w) (fun _ _ _ hh h => h.of_heap hh) own started (by kernel_rfl) Tryd.func4
    (ChangeSpec.witness_shaped (enc := enc) (C := Tryd.checked) (os := os) (X := fun w _ => laidMetH Tryd.prog Rows.fnEditTextRow.laid w) false (World.laidAll Tryd.prog os Rows.fnEditTextRow.laid) #[.slice none 0 0] 8 (World.laidAll_os _ _ _)
      (World.shaped_of_ZipB (by kernel_rfl) (by kernel_rfl)) (by kernel_rfl) (by kernel_rfl) (by kernel_rfl)
      (by rw [MakeChecks.laidMetH_plain _ _ _ (by kernel_rfl)]; exact laidMet_laidAll _ (by kernel_rfl) (by kernel_rfl))) ?_
  intro W base args ds gs before hval0 hW hcnd _ hL hsh _
  have hM := And.intro (Go.Proofs.cell_of_shapedOpen_int (g := 0) (zero := #[.int .i64 0]) (t := 3) hsh (of_decide_eq_true (by kernel_rfl)) (by kernel_rfl) rfl (by kernel_rfl) (by kernel_rfl) Tryd.underlying3) (toldFnEditText hL)
  have hval : ∀ (j : Nat) t v, Tryd.f4.params[j]? = some t → args[j]? = some v → Value.okWide Tryd.prog W .any base t v := hval0
  have hW' := hW
  obtain ⟨p, q, hA0, hV, rfl, hfz, hnd⟩ := hW
  have hA : DataW.TrodAll enc Tryd.prog W 0 (fun _ => true) true Tryd.f4.params.toList args.toList ds p := hA0
  rw [Tryd.params4] at hA hval
  obtain ⟨v0, vs0, d0, ds0, p0, q0, hargs, rfl, rfl, h0, r0⟩ := trodAll_cons hA
  obtain ⟨rfl, rfl, rfl⟩ := trodAll_nil r0
  obtain rfl : args = #[v0] := by cases args; simp_all
  obtain ⟨rfl, rfl⟩ := trodVars_none hV
  have k0 := h0
  have lt0 : ∀ x ∈ p0, x.block < W.heap.size := by obtain ⟨m, hm⟩ := k0; exact DataW.trod_lt m _ _ _ hm
  obtain ⟨a0, w0⟩ := (fun W v hv h => open_bytesR (w := W) (v := v) Tryd.underlying28 Tryd.underlying5 (by kernel_rfl) hv h) W v0 (hval 0 28 v0 rfl rfl) h0
  clear hA0 hval0
  refine (FnEditText_walk v0 a0 W hM w0).mono fun e W' ⟨he, bel⟩ => ?_
  subst he
  exact ⟨_, rfl, _, _, _, [], _, [], hW', trodAll_mk1 (shut_bool Tryd.underlying4 _), (trodAll_cons_mk (Below.trod laidOut (by kernel_rfl) (of_decide_eq_true (by kernel_rfl)) k0 bel lt0) trodAll_mk0), rfl, bel.frame _, fun h => by cases h⟩
theorem over : Rows.FnEditTextSaid :=
  OpenClaim.holds_of_wide 4 Tryd.f4 rfl rfl rfl rfl rfl rfl rfl ⟨rfl, rfl, rfl, rfl, rfl⟩ rfl rfl rfl rfl rfl (by kernel_rfl) Tryd.func4 (by kernel_rfl)
    (of_decide_eq_true (by kernel_rfl)) (by unfold Func.isWrapper; first | (rw [if_pos (by decide +kernel)]; kernel_rfl) | (rw [if_neg (by decide +kernel)]; exact ⟨rfl, rfl⟩))
    (fun os started H enc _ => lifted os started H enc)
theorem proved : Rows.FnEditTextCardSaid :=
  Claim7.holds_tied_plain_at .later [] [.data, .data, .data, .sentinel, .sentinel] true (true, "92744dd433f8901d11ae03c3b037c9a0970137cf27639ae85e02e29dbf5b055b") true over (fun _ h => by cases h) (by kernel_rfl) (fun _ h => by cases h) fnEditText_row_tie rfl ⟨rfl, rfl⟩ (by kernel_rfl) rfl
    (fun f fn hf hfn => by
      obtain rfl : f = 4 := Option.some.inj ((show Tryd.prog.funcNamed "loop.example/g00882/laws.FnEditText" = some 4 by kernel_rfl).symm.trans hf) |>.symm
      obtain rfl : fn = Tryd.f4 := (Option.some.inj (Tryd.func4.symm.trans hfn)).symm
      exact ⟨by kernel_rfl, fun j t ht => by
        rw [Tryd.params4] at ht
        have hm : t ∈ [28] := by simpa using Array.mem_of_getElem? ht
        have hall : ([28].all fun u => !Tryd.prog.wantsStandIn u) = true := by kernel_rfl
        exact (show Tryd.prog.wantsStandIn t = false by simpa using List.all_eq_true.1 hall t hm)⟩)
    (by kernel_rfl)
#print axioms proved
end fnEditText

end Go.Proofs.YtkbbcmbeafjpaabDoor
