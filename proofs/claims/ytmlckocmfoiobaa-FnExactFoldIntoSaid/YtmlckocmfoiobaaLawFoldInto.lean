/-
  THE CLAIM: the law FnExactFoldInto returns true for every input, and its arguments read afterwards as before. Conditions: none beyond the given statement's own.
-/
import Derived.Test.YtmlckocmfoiobaaInto
import Derived.Test.YtmlckocmfoiobaaOpenSl
import Derived.ProofKit
import Derived.OpenShut
import Derived.ShutString
import Derived.ChangeOld
import Derived.Below
import Derived.Lib.SmallJoins
namespace Go.Proofs.Ytmlckocmfoiobaa
open Go.RowKit Go.Joins

theorem kk {w w' : World} (hb : Below w.heap.size w w') {b : Nat} {x y : Value} (h : w.cell? ⟨b, 0, none⟩ = some x ∧ w.cell? ⟨b, 1, none⟩ = some y) : w'.cell? ⟨b, 0, none⟩ = some x ∧ w'.cell? ⟨b, 1, none⟩ = some y := ⟨keepc hb h.1, keepc hb h.2⟩
theorem kg {w w' : World} {row : Option Nat} (hg : w.grownBy w' row) {b : Nat} {x y : Value} (h : w.cell? ⟨b, 0, none⟩ = some x ∧ w.cell? ⟨b, 1, none⟩ = some y) (hne : some b ≠ row) : w'.cell? ⟨b, 0, none⟩ = some x ∧ w'.cell? ⟨b, 1, none⟩ = some y := ⟨hg.cell h.1 hne, hg.cell h.2 hne⟩
theorem keepcD {w w' : World} (hb : Below w.drew.heap.size w.drew w') {b o : Nat} {u : Value} (h : w.cell? ⟨b, o, none⟩ = some u) : w'.cell? ⟨b, o, none⟩ = some u := keepc hb h
theorem own_keepD {w w' : World} {base : Nat} {e : TypeId} {size : Nat} {v : Value} {n : Nat} {xs : List Value} (h : w.ownsRow base e size v n xs) (hb : Below w.drew.heap.size w.drew w') : w'.ownsRow base e size v n xs := own_keep (w := w.drew) h hb
theorem Rows.drew2 {w : World} {v : Value} {n size : Nat} {xs : List Value} (h : Rows w v n size xs) : Rows w.drew v n size xs := h
theorem rowsL {w : World} {v : Value} {l : List Int} (h : Rows w v l.length 1 (ints l)) : Rows w v l.length 1 (ints l) := h
/-- two rows of which the later one was laid behind the earlier -/
theorem apartI {w w' : World} {b1 : Nat} {E E' : TypeId} {size n m size' : Nat} {v v' : Value} {xs ys : List Value} (h : w.ownsRow b1 E size v n xs) (h' : w'.ownsRow w.heap.size E' size' v' m ys) : v.ownBlock = none ∨ v.ownBlock ≠ v'.ownBlock := by
  cases hv : v.ownBlock with
  | none => exact .inl rfl
  | some g =>
    right
    intro he
    have h1 := (h.lt g hv).2
    have h2 := (h'.lt g he.symm).1
    omega
theorem apartJ {w w' : World} {b1 : Nat} {E E' : TypeId} {size n m size' : Nat} {v v' : Value} {xs ys : List Value} (h : w.ownsRow b1 E size v n xs) (h' : w'.ownsRow w.heap.size E' size' v' m ys) : v'.ownBlock = none ∨ v'.ownBlock ≠ v.ownBlock := by
  cases hv : v'.ownBlock with
  | none => exact .inl rfl
  | some g =>
    right
    intro he
    have h1 := (h.lt g he.symm).2
    have h2 := (h'.lt g hv).1
    omega
theorem out_len (l : List Int) (k : Int) (t : ByteArray) (hl : l.length ≤ 1048576) : (Pl.intoOut l k t).length ≤ 1048576 := by
  unfold Pl.intoOut
  split
  · unfold Pl.withLast; simp; omega
  · simp

set_option maxRecDepth 20000 in
set_option maxHeartbeats 6400000 in
theorem FnExactFoldInto_walk (v : Value) (l : List Int) (k : Int) (t : ByteArray) (w : World) (hr0 : Rows w v l.length 1 (ints l) ∧ (∀ n ∈ l, (Lit.int .i64 n).wf = true)) (_ : (Lit.int .i64 k).wf = true) (ht : t.size ≤ maxLen) :
    Calls Try.prog 11 #[v, .agg #[.int .i64 k, .string t]] w fun e w' => e = .returned (.bool true) ∧ Below w.heap.size w w' := by
  have HR := Lib.hid hr0.1; clear hr0
  obtain ⟨a, cap, rfl, -⟩ := HR.out
  have HB := Lib.hid (Joins.below_alloc1 w (.cells #[.int .i64 k, .string t] 60))
  by_cases hl : 1048576 < l.length
  · go_enter Try.func11, Try.ntmps11
    go_wp2
    go_ret
    exact ⟨rfl, HB.out⟩
  by_cases hz : (1048576 : Int) < (t.size : Int)
  · go_enter Try.func11, Try.ntmps11
    go_wp2_with (go_at_call 41; refine (szFold_any _ _ _ _ ht (by omega) (by omega)).mono ?_; rintro e w1 ⟨he, hb1⟩; rw [if_pos hz] at he; subst he)
    go_ret
    exact ⟨rfl, HB.out.trans (hb1.mono HB.out.size)⟩
  have hl2 : l.length ≤ 1048576 := by omega
  have hL6 := out_len l k t hl2
  have ca : (w.alloc (.cells #[.int .i64 k, .string t] 60)).cell? ⟨w.heap.size, 0, none⟩ = some (.int .i64 k) := by simp
  have cb : (w.alloc (.cells #[.int .i64 k, .string t] 60)).cell? ⟨w.heap.size, 1, none⟩ = some (.string t) := by simp
  go_enter Try.func11, Try.ntmps11
  go_upto_region 7 with (go_at_call 41; refine (szFold_any _ _ _ _ ht (by omega) (by omega)).mono ?_; rintro e w1 ⟨he, hb1⟩; rw [if_neg hz] at he; subst he; have caq1 := keepc hb1 ca; have cbq1 := keepc hb1 cb; have Bq1 := Lib.hid (HB.out.trans (hb1.mono HB.out.size)); clear hb1)
  clear ca cb HB
  go_cut [6, 7] (fun s6 s7 wx => ∃ v1, s6 = v1 ∧ s7 = .bool (Pl.intoOk l k t) ∧ wx.ownsRow w.heap.size 3 1 v1 (Pl.intoOut l k t).length (ints (Pl.intoOut l k t)) ∧ Below w.heap.size w wx ∧ (wx.cell? ⟨w.heap.size, 0, none⟩ = some (.int .i64 k) ∧ wx.cell? ⟨w.heap.size, 1, none⟩ = some (.string t)))
  case first =>
    go_region_held3 (fun w' => w'.cell? ⟨w.heap.size, 0, none⟩ = some (.int .i64 k) ∧ w'.cell? ⟨w.heap.size, 1, none⟩ = some (.string t)) (first | exact ⟨caq5, cbq5⟩ | exact ⟨caq4, cbq4⟩ | exact ⟨caq3, cbq3⟩ | exact ⟨caq1, cbq1⟩) (first
    | (go_at_call 42; refine (specFoldInto_any _ l k t _ (Rows.of_own OZ.out) hl2 ht).mono ?_; rintro e p5 ⟨v5, rfl, hown5, hb5⟩; have caq5 := keepc hb5 caq4; have cbq5 := keepc hb5 cbq4; have Bq5 := Lib.hid (Bq4.out.trans (hb5.mono Bq4.out.size)); have O5 := Lib.hid hown5; clear OZ hown5)
    | (go_at_call 44; have hx := OI; refine (toFold_any _ _ _).mono ?_; rintro e p4 ⟨rfl, hb4⟩; have OZ := Lib.hid (own_keep OI.out hb4); have caq4 := keepc hb4 caq3; have cbq4 := keepc hb4 cbq3; have Bq4 := Lib.hid (Bq3.out.trans (hb4.mono Bq3.out.size)); clear OI hx)
    | (go_at_call 44; refine (toFold_any _ _ _).mono ?_; rintro e p3 ⟨rfl, hb3⟩; have OF := Lib.hid trivial; have caq3 := keepcD hb3 caq1; have cbq3 := keepcD hb3 cbq1; have Bq3 := Lib.hid ((below_drew1 Bq1.out).trans (hb3.mono Bq1.out.size)))
    | (go_at_call 43; have hx := OF; refine (toIntS_any _ l _ (HR.out.keep Bq3.out) hl2).mono ?_; rintro e p4 ⟨x4, rfl, hown4, hb4⟩; have OZ := Lib.hid hown4; have caq4 := keepc hb4 caq3; have cbq4 := keepc hb4 cbq3; have Bq4 := Lib.hid (Bq3.out.trans (hb4.mono Bq3.out.size)); clear OF hx hown4)
    | (go_at_call 43; refine (toIntS_any _ l _ (HR.out.keep Bq1.out).drew2 hl2).mono ?_; rintro e p3 ⟨x3, rfl, hown3, hb3⟩; have OI := Lib.hid hown3; have caq3 := keepcD hb3 caq1; have cbq3 := keepcD hb3 cbq1; have Bq3 := Lib.hid ((below_drew1 Bq1.out).trans (hb3.mono Bq1.out.size)); clear hown3))
    all_goals go_wp2_with fail
    all_goals go_meet
    all_goals (case rel => exact ⟨_, rfl, rfl, own_base O5.out Bq4.out.size, Bq5.out, caq5, cbq5⟩)
  obtain ⟨v1, h6, rfl, hq1, hc1, hk1⟩ := hcut
  have h6' := h6.symm
  subst h6'
  have Q1 := Lib.hid hq1; have C1 := Lib.hid hc1; have K1 := Lib.hid hk1
  clear hq1 hc1 hk1 caq1 cbq1 Bq1
  go_upto_region 26 with (first
    | (go_at_call 48; refine (heldIntS_any _ _ 1 _ (Rows.of_own M10.out) hL6 (by omega) (by omega)).mono ?_; rintro e w' ⟨rfl, rfl⟩)
    | (go_at_call 47; have hx := N9; refine (markIntS_any _ _ _ _ 1 _ G9.out hL6 (by omega) (by omega)).mono ?_; rintro e u10 ⟨rfl, ho10, hg10⟩; have M10 := Lib.hid ho10; have Q10 := Lib.hid (Q9.out.kept hg10 DQG.out); have C10 := Lib.hid (C9.out.grown hg10 C9.out.size (fun k hk => Nat.le_trans NG.out (G9.out.lt k hk).1)); have K10 := Lib.hid (kg hg10 K9.out (fun h => absurd (G9.out.lt _ h.symm).1 (Nat.not_le.2 NG2.out))); clear hx N9 G9 Q9 C9 K9 ho10 hg10)
    | (go_at_call 46; have hx := N8; refine (eqIntS_same _ _ _ _ (rowsL (Rows.of_own G8.out)) (rowsL (Rows.of_own Q8.out)) hL6).mono ?_; rintro e u9 ⟨rfl, hd⟩; have hb := hd.below; have G9 := Lib.hid (own_keep G8.out hb); have Q9 := Lib.hid (own_keep Q8.out hb); have C9 := Lib.hid (C8.out.trans (hb.mono C8.out.size)); have K9 := Lib.hid (kk hb K8.out); have N9 := Lib.hid trivial; clear G8 Q8 C8 K8 hx N8 hd hb)
    | (go_at_call 47; refine (markIntS_any _ _ _ _ 1 _ X7.out hl2 (by omega) (by omega)).mono ?_; rintro e u8 ⟨rfl, ho8, hg8⟩; have G8 := Lib.hid (G7.out.kept hg8 DGX.out); have Q8 := Lib.hid (Q7.out.kept hg8 DQX.out); have C8 := Lib.hid (C7.out.grown hg8 C7.out.size (fun k hk => Nat.le_trans NX.out (X7.out.lt k hk).1)); have K8 := Lib.hid (kg hg8 K7.out (fun h => absurd (X7.out.lt _ h.symm).1 (Nat.not_le.2 NX2.out))); have N8 := Lib.hid trivial; clear X7 G7 Q7 C7 K7 ho8 hg8)
    | (go_at_call 46; have hx := Y6; refine (eqIntS_same _ _ l _ (Rows.of_own X6.out) (Rows.of_own Y6.out) hl2).mono ?_; rintro e u7 ⟨rfl, hd⟩; have hb := hd.below; have X7 := Lib.hid (own_keep X6.out hb); have G7 := Lib.hid (own_keep G6.out hb); have Q7 := Lib.hid (own_keep Q6.out hb); have C7 := Lib.hid (C6.out.trans (hb.mono C6.out.size)); have K7 := Lib.hid (kk hb K6.out); clear X6 G6 Q6 C6 K6 hx Y6 hd hb)
    | (go_at_call 43; have hx := G5; refine (toIntS_any _ l _ (HR.out.keep C5.out) hl2).mono ?_; rintro e u6 ⟨y6, rfl, hy6, hb⟩; have Y6 := Lib.hid hy6; have X6 := Lib.hid (own_keep X5.out hb); have G6 := Lib.hid (own_keep G5.out hb); have Q6 := Lib.hid (own_keep Q5.out hb); have C6 := Lib.hid (C5.out.trans (hb.mono C5.out.size)); have K6 := Lib.hid (kk hb K5.out); clear X5 G5 Q5 C5 K5 hx hy6 hb)
    | (go_at_call 46; have hx := G4; refine (eqIntS_same _ _ _ _ (rowsL (Rows.of_own G4.out)) (rowsL (Rows.of_own Q4.out)) hL6).mono ?_; rintro e u5 ⟨rfl, hd⟩; have hb := hd.below; have X5 := Lib.hid (own_keep X4.out hb); have G5 := Lib.hid (own_keep G4.out hb); have Q5 := Lib.hid (own_keep Q4.out hb); have C5 := Lib.hid (C4.out.trans (hb.mono C4.out.size)); have K5 := Lib.hid (kk hb K4.out); clear X4 G4 Q4 C4 K4 hx hd hb)
    | (go_at_call 45; refine (FoldInto_any _ l k t _ (Rows.of_own X3.out) hl2 ht).mono ?_; rintro e u4 ⟨v4, rfl, hg4, hb⟩; have G4 := Lib.hid hg4; have NG := Lib.hid C3.out.size; have NG2 := Lib.hid (World.block_lt_of_cell? _ _ K3.out.1); have DQG := Lib.hid (apartI Q3.out hg4); have DGX := Lib.hid (apartJ X3.out hg4); have X4 := Lib.hid (own_keep X3.out hb); have Q4 := Lib.hid (own_keep Q3.out hb); have C4 := Lib.hid (C3.out.trans (hb.mono C3.out.size)); have K4 := Lib.hid (kk hb K3.out); clear X3 Q3 C3 K3 hg4 hb)
    | (go_at_call 44; refine (toFold_any _ _ _).mono ?_; rintro e u3 ⟨rfl, hb⟩; have X3 := Lib.hid (own_keep X2.out hb); have Q3 := Lib.hid (own_keep Q2.out hb); have C3 := Lib.hid (C2.out.trans (hb.mono C2.out.size)); have K3 := Lib.hid (kk hb K2.out); clear X2 Q2 C2 K2 hb ra rb)
    | (go_at_call 43; refine (toIntS_any _ l _ (HR.out.keep C1.out) hl2).mono ?_; rintro e u2 ⟨x2, rfl, hx2, hb⟩; have X2 := Lib.hid hx2; have NX := Lib.hid C1.out.size; have NX2 := Lib.hid (World.block_lt_of_cell? _ _ K1.out.1); have DQX := Lib.hid (apartI Q1.out hx2); have Q2 := Lib.hid (own_keep Q1.out hb); have C2 := Lib.hid (C1.out.trans (hb.mono C1.out.size)); have K2 := Lib.hid (kk hb K1.out); have ra := K2.out.1; have rb := K2.out.2; clear Q1 C1 K1 hx2 hb))
  have Qq1 := Q10; have Mq1 := Lib.hid (own_base M10.out NG.out); have Bq1 := C10; have caq1 := K10.out.1; have cbq1 := K10.out.2
  clear Q10 M10 C10 K10 NX NX2 DQX NG NG2 DQG DGX
  go_cut [14, 15] (fun s14 s15 wx => ∃ v2, s14 = v2 ∧ s15 = .bool (Pl.intoOk l k t) ∧ wx.ownsRow w.heap.size 3 1 v2 (Pl.intoOut l k t).length (ints (Pl.intoOut l k t)) ∧ Below w.heap.size w wx ∧ wx.ownsRow w.heap.size 3 1 v1 (Pl.intoOut l k t).length (ints (Pl.intoOut l k t)) ∧ wx.ownsRow w.heap.size 3 1 v4 (Pl.intoOut l k t).length (ints (marksI 1 (Pl.intoOut l k t).length)))
  case first =>
    go_region_held3 (fun w' => w'.cell? ⟨w.heap.size, 0, none⟩ = some (.int .i64 k) ∧ w'.cell? ⟨w.heap.size, 1, none⟩ = some (.string t)) (first | exact ⟨caq5, cbq5⟩ | exact ⟨caq4, cbq4⟩ | exact ⟨caq3, cbq3⟩ | exact ⟨caq1, cbq1⟩) (first
    | (go_at_call 45; refine (FoldInto_any _ l k t _ (Rows.of_own OZ.out) hl2 ht).mono ?_; rintro e p5 ⟨v5, rfl, hown5, hb5⟩; have Qq5 := Lib.hid (own_keep Qq4.out hb5); have Mq5 := Lib.hid (own_keep Mq4.out hb5); have caq5 := keepc hb5 caq4; have cbq5 := keepc hb5 cbq4; have Bq5 := Lib.hid (Bq4.out.trans (hb5.mono Bq4.out.size)); have O5 := Lib.hid hown5; clear OZ hown5)
    | (go_at_call 44; have hx := OI; refine (toFold_any _ _ _).mono ?_; rintro e p4 ⟨rfl, hb4⟩; have OZ := Lib.hid (own_keep OI.out hb4); have Qq4 := Lib.hid (own_keep Qq3.out hb4); have Mq4 := Lib.hid (own_keep Mq3.out hb4); have caq4 := keepc hb4 caq3; have cbq4 := keepc hb4 cbq3; have Bq4 := Lib.hid (Bq3.out.trans (hb4.mono Bq3.out.size)); clear OI hx)
    | (go_at_call 44; refine (toFold_any _ _ _).mono ?_; rintro e p3 ⟨rfl, hb3⟩; have OF := Lib.hid trivial; have Qq3 := Lib.hid (own_keepD Qq1.out hb3); have Mq3 := Lib.hid (own_keepD Mq1.out hb3); have caq3 := keepcD hb3 caq1; have cbq3 := keepcD hb3 cbq1; have Bq3 := Lib.hid ((below_drew1 Bq1.out).trans (hb3.mono Bq1.out.size)))
    | (go_at_call 43; have hx := OF; refine (toIntS_any _ l _ (HR.out.keep Bq3.out) hl2).mono ?_; rintro e p4 ⟨x4, rfl, hown4, hb4⟩; have OZ := Lib.hid hown4; have Qq4 := Lib.hid (own_keep Qq3.out hb4); have Mq4 := Lib.hid (own_keep Mq3.out hb4); have caq4 := keepc hb4 caq3; have cbq4 := keepc hb4 cbq3; have Bq4 := Lib.hid (Bq3.out.trans (hb4.mono Bq3.out.size)); clear OF hx hown4)
    | (go_at_call 43; refine (toIntS_any _ l _ (HR.out.keep Bq1.out).drew2 hl2).mono ?_; rintro e p3 ⟨x3, rfl, hown3, hb3⟩; have OI := Lib.hid hown3; have Qq3 := Lib.hid (own_keepD Qq1.out hb3); have Mq3 := Lib.hid (own_keepD Mq1.out hb3); have caq3 := keepcD hb3 caq1; have cbq3 := keepcD hb3 cbq1; have Bq3 := Lib.hid ((below_drew1 Bq1.out).trans (hb3.mono Bq1.out.size)); clear hown3))
    all_goals go_wp2_with fail
    all_goals go_meet
    all_goals (case rel => exact ⟨_, rfl, rfl, own_base O5.out Bq4.out.size, Bq5.out, Qq5.out, Mq5.out⟩)
  obtain ⟨v2, h14, rfl, ho2, hb2, hq2, hm2⟩ := hcut
  have h14' := h14.symm
  subst h14'
  have H2 := Lib.hid ho2; have B2 := Lib.hid hb2; have Q2 := Lib.hid hq2; have M2 := Lib.hid hm2
  clear ho2 hb2 hq2 hm2 Qq1 Mq1 Bq1 caq1 cbq1
  go_wp2_with (first
    | (go_at_call 48; have hx := MZ; refine (heldIntS_any _ _ 1 _ (Rows.of_own MZ.out) hL6 (by omega) (by omega)).mono ?_; rintro e w' ⟨rfl, rfl⟩)
    | (go_at_call 46; refine (eqIntS_same _ _ _ _ (rowsL (Rows.of_own H2.out)) (rowsL (Rows.of_own Q2.out)) hL6).mono ?_; rintro e z3 ⟨rfl, hd⟩; have MZ := Lib.hid (own_keep M2.out hd.below); have BZ := Lib.hid (B2.out.trans (hd.below.mono B2.out.size)); clear H2 Q2 M2 hd))
  go_ret
  exact ⟨rfl, BZ.out⟩

namespace fnExactFoldInto
open Go.ChangeShapes Go.WideShapes Go.ChangeAt Go.RowKit
open Go.ChangeMaps (open_string shut_string)
set_option linter.unusedVariables false
theorem own : ownKnob Try.prog.godebug = none := by kernel_rfl
theorem laidOut : laidOutB Try.prog = true := by kernel_rfl
set_option maxRecDepth 100000 in
theorem lifted (os : Os) (started : os.Started) (H : Type) (enc : TypeId × Value → H) :
    ReturnsInHanded {} Try.checked os 11 .any (Rows.fnExactFoldIntoSpec.pre6 enc Try.prog Try.f11 Rows.fnExactFoldIntoRow.domain false) (Rows.fnExactFoldIntoSpec.post enc Try.prog Try.f11 false true false false) := by
  refine returnsInHanded_of_change (C := Try.checked) own started (by kernel_rfl) Try.func11
    (ChangeSpec.witness6 (enc := enc) (C := Try.checked) false ⟨#[], #[.slice none 0 0, .agg #[.int .i64 0, .string ⟨#[]⟩]], []⟩ 8 (by kernel_rfl) (by kernel_rfl) (by kernel_rfl) (by kernel_rfl)) ?_
  intro W base args ds gs before hval0 hW hcnd _
  have hval : ∀ (j : Nat) t v, Try.f11.params[j]? = some t → args[j]? = some v → Value.okWide Try.prog W .any base t v := hval0
  have hW' := hW
  obtain ⟨p, q, hA0, hV, rfl, hfz, hnd⟩ := hW
  have hA : DataW.TrodAll enc Try.prog W 0 (fun _ => true) true Try.f11.params.toList args.toList ds p := hA0
  rw [Try.params11] at hA hval
  obtain ⟨v0, vs0, d0, ds0, p0, q0, hargs, rfl, rfl, h0, r0⟩ := trodAll_cons hA
  obtain ⟨v1, vs1, d1, ds1, p1, q1, rfl, rfl, rfl, h1, r1⟩ := trodAll_cons r0
  obtain ⟨rfl, rfl, rfl⟩ := trodAll_nil r1
  obtain rfl : args = #[v0, v1] := by cases args; simp_all
  obtain ⟨rfl, rfl⟩ := trodVars_none hV
  have k0 := h0
  have lt0 : ∀ x ∈ p0, x.block < W.heap.size := by obtain ⟨m, hm⟩ := k0; exact DataW.trod_lt m _ _ _ hm
  obtain ⟨a0, w0⟩ := (fun W v hv h => open_intsR (w := W) (v := v) Try.underlying58 Try.underlying3 (by kernel_rfl) hv h) W v0 (hval 0 58 v0 rfl rfl) h0
  have k1 := h1
  have lt1 : ∀ x ∈ p1, x.block < W.heap.size := by obtain ⟨m, hm⟩ := k1; exact DataW.trod_lt m _ _ _ hm
  obtain ⟨cs1, rfl, hl1, m1, hg1⟩ := open_agg Try.underlying60 (by kernel_rfl) (by kernel_rfl) (hval 1 60 v1 rfl rfl) h1
  obtain ⟨c1a, y1a, g1a, t1a⟩ := hg1 0 _ rfl
  obtain ⟨a1a, e1a, _, w1a⟩ := DataW.trod_int Try.underlying3 t1a
  simp only [List.cons.injEq, and_true] at e1a; subst e1a
  obtain ⟨c1b, y1b, g1b, t1b⟩ := hg1 1 _ rfl
  obtain ⟨a1b, e1b, _, w1b⟩ := DataW.trod_string Try.underlying9 t1b
  simp only [List.cons.injEq, and_true] at e1b; subst e1b
  obtain rfl := list2 hl1 g1a g1b
  clear hA0 hval0
  refine (FnExactFoldInto_walk v0 a0 a1a a1b W w0 w1a w1b).mono fun e W' ⟨he, bel⟩ => ?_
  subst he
  exact ⟨_, rfl, _, _, _, [], _, [], hW', trodAll_mk1 (shut_bool Try.underlying4 _), (trodAll_cons_mk (Below.trod laidOut (by kernel_rfl) (of_decide_eq_true (by kernel_rfl)) k0 bel lt0) (trodAll_cons_mk (Below.trod laidOut (by kernel_rfl) (of_decide_eq_true (by kernel_rfl)) k1 bel lt1) trodAll_mk0)), rfl, bel.frame _, fun h => by cases h⟩
theorem over : Rows.fnExactFoldIntoRow.holds Try.pinned (OpenSpec.ofChange Rows.fnExactFoldIntoSpec) :=
  OpenClaim.holds_of_wide 11 Try.f11 rfl rfl rfl rfl rfl rfl rfl ⟨rfl, rfl, rfl, rfl, rfl⟩ rfl rfl rfl rfl rfl (by kernel_rfl) Try.func11 (by kernel_rfl)
    (of_decide_eq_true (by kernel_rfl)) (by unfold Func.isWrapper; first | (rw [if_pos (by decide +kernel)]; kernel_rfl) | (rw [if_neg (by decide +kernel)]; exact ⟨rfl, rfl⟩))
    (fun os started H enc _ => lifted os started H enc)
theorem proved : Rows.FnExactFoldIntoSaid := over
#print axioms proved
end fnExactFoldInto

end Go.Proofs.Ytmlckocmfoiobaa
