/-
  CONTRACTS: the laws' own functions over a translator: szTranslator, toTranslator, eqTranslator; and its reading as an argument.
-/
import Derived.Test.YtdidgaibgkdjoaaGreatDoorBasB
import Derived.Test.YtdidgaibgkdjoaaGreatDoorBasA
namespace Go.Proofs.YtdidgaibgkdjoaaGreatDoor
open Go.RowKit

set_option maxHeartbeats 800000 in
theorem szTranslator_any (u : Value) (l : List Int) (t : ByteArray) (n : Int) (w : World) (hr : Rows w u l.length 1 (ints l)) (ht : t.size ≤ maxLen) (h0 : 0 ≤ n) (h1 : n ≤ 1048576) :
    Calls Tryz.prog 38 #[.agg #[u, .string t], .int .i64 n] w fun e w' => e = .returned (.int .i64 (if n < (l.length : Int) + (t.size : Int) then -1 else n - l.length - t.size)) ∧ Below w.heap.size w w' := by
  have HB := Lib.hid (Joins.below_alloc1 w (.cells #[u, .string t] 75))
  have HR := Lib.hid (hr.keep HB.out)
  obtain ⟨a, cap, rfl, hnc, hcm, _, _, _⟩ := hr
  unfold maxLen at ht hcm
  by_cases h : n < (l.length : Int)
  · have E := Lib.hid (show (if n < (l.length : Int) + (t.size : Int) then -1 else n - l.length - t.size) = -1 from if_pos (by omega))
    go_enter Tryz.func38, Tryz.ntmps38
    go_wp2_with (go_at_call 86; refine (szIntS_any _ l _ _ HR.out h0 h1).mono ?_; rintro e w1 ⟨he, rfl⟩; rw [if_pos h] at he; subst he)
    go_ret
    exact ⟨by first | rfl | exact ret_int E.out.symm, HB.out⟩
  · by_cases h2 : n < (l.length : Int) + (t.size : Int)
    · have E := Lib.hid (show (if n < (l.length : Int) + (t.size : Int) then -1 else n - l.length - t.size) = -1 from if_pos h2)
      go_enter Tryz.func38, Tryz.ntmps38
      go_wp2_with (go_at_call 86; refine (szIntS_any _ l _ _ HR.out h0 h1).mono ?_; rintro e w1 ⟨he, rfl⟩; rw [if_neg h] at he; subst he)
      go_ret
      exact ⟨by first | rfl | exact ret_int E.out.symm, HB.out⟩
    · have E := Lib.hid (show (if n < (l.length : Int) + (t.size : Int) then -1 else n - l.length - t.size) = n - l.length - t.size from if_neg h2)
      go_enter Tryz.func38, Tryz.ntmps38
      go_wp2_with (go_at_call 86; refine (szIntS_any _ l _ _ HR.out h0 h1).mono ?_; rintro e w1 ⟨he, rfl⟩; rw [if_neg h] at he; subst he)
      go_ret
      exact ⟨by first | rfl | exact ret_int E.out.symm, HB.out⟩

/-- a translator whose strokes lies in memory of the call's own -/
def RetTr (w : World) (l : List Int) (t : ByteArray) (e : Ending) (w' : World) : Prop :=
  ∃ u, e = .returned (.agg #[u, .string t]) ∧ w'.ownsRow w.heap.size 3 1 u l.length (ints l) ∧ Below w.heap.size w w'

set_option maxRecDepth 20000 in
set_option maxHeartbeats 1600000 in
theorem toTranslator_any (u : Value) (l : List Int) (t : ByteArray) (w : World) (hr : Rows w u l.length 1 (ints l)) (hl : l.length ≤ 1048576) :
    Calls Tryz.prog 40 #[.agg #[u, .string t]] w (RetTr w l t) := by
  obtain ⟨W, hW⟩ : ∃ W, W = ((w.alloc (.cells #[u, .string t] 75)).alloc (.cells #[.slice none 0 0, .string ⟨#[]⟩] 78)).alloc (.cells #[.slice none 0 0, .string ⟨#[]⟩] 78) := ⟨_, rfl⟩
  have hB : Below w.heap.size w W := by rw [hW]; exact (((Below.refl _ _).alloc (Nat.le_refl _) _).alloc (by rw [World.size_alloc]; omega) _).alloc (by rw [World.size_alloc, World.size_alloc]; omega) _
  have hz : W.heap.size = w.heap.size + 1 + 1 + 1 := by rw [hW, World.size_alloc, World.size_alloc, World.size_alloc]
  have HI := Lib.hid (toIntS_any u l W (hr.keep hB) hl)
  have c0 : W.cell? ⟨w.heap.size, 0, none⟩ = some u := by rw [hW]; simp [go_sem]
  have c1 : W.cell? ⟨w.heap.size, 1, none⟩ = some (.string t) := by rw [hW]; simp [go_sem]
  have d0 : W.cell? ⟨w.heap.size + 1, 0, none⟩ = some (.slice none 0 0) := by rw [hW]; simp [go_sem]
  have d1 : W.cell? ⟨w.heap.size + 1, 1, none⟩ = some (.string ⟨#[]⟩) := by rw [hW]; simp [go_sem]
  have e0 : W.cell? ⟨w.heap.size + 1 + 1, 0, none⟩ = some (.slice none 0 0) := by rw [hW]; simp [go_sem]
  have e1 : W.cell? ⟨w.heap.size + 1 + 1, 1, none⟩ = some (.string ⟨#[]⟩) := by rw [hW]; simp [go_sem]
  have fd : ∀ i, W.frozen? ⟨w.heap.size + 1, i, none⟩ = false := fun i => by rw [hW]; simp [go_sem]
  have fe : ∀ i, W.frozen? ⟨w.heap.size + 1 + 1, i, none⟩ = false := fun i => by rw [hW]; simp [go_sem]
  have C0 := Lib.hid c0; have C1 := Lib.hid c1; have D0 := Lib.hid d0; have D1 := Lib.hid d1; have E0 := Lib.hid e0; have E1 := Lib.hid e1; have FD := Lib.hid fd; have FE := Lib.hid fe
  have HB := Lib.hid hB
  have HW := Lib.hid hW
  have HZ := Lib.hid hz
  clear c0 c1 d0 d1 e0 e1 fd fe hB hW hr
  go_enter Tryz.func40, Tryz.ntmps40
  go_upto_region 2 with fail
  rw [← HW.out]
  have g0 := C0.out
  clear hz
  go_wp2_with (go_at_call 34; refine HI.out.mono ?_; rintro e w1 ⟨u1, rfl, hown, hb1⟩; obtain ⟨a1, k1, rfl⟩ := row_formD hown; have hlt : w.heap.size + 1 + 1 < w1.heap.size := (by have := hb1.size; rw [HZ.out] at this; omega); have c1 := keepcE hb1 C1.out; have d0 := keepcE hb1 D0.out; have d1 := keepcE hb1 D1.out; have e0 := keepcE hb1 E0.out; have e1 := keepcE hb1 E1.out; have fd0 := ((bcell hb1).2 _ 0 (by rw [HZ.out]; omega)).trans (FD.out 0); have fd1 := ((bcell hb1).2 _ 1 (by rw [HZ.out]; omega)).trans (FD.out 1); have fe0 := ((bcell hb1).2 _ 0 (by rw [HZ.out]; omega)).trans (FE.out 0); have fe1 := ((bcell hb1).2 _ 1 (by rw [HZ.out]; omega)).trans (FE.out 1); have HO := Lib.hid hown; have HB1 := Lib.hid (HB.out.trans (hb1.mono HB.out.size)); clear hown hb1)
  refine bodyPost_ret (v := .agg #[.slice a1 l.length k1, .string t]) (by simp [results, Tryz.results40, go_sem, *]) rfl ⟨_, rfl, ?_, ?_⟩
  · have h1 : w.heap.size + 1 < W.heap.size := by rw [HZ.out]; omega
    have h2 : w.heap.size + 1 + 1 < W.heap.size := by rw [HZ.out]; omega
    exact own_base (own_set_low (own_set_low (own_set_low (own_set_low HO.out h2) h2) h1) h1) (by rw [HZ.out]; omega)
  · have hB1 := HB1.out
    exact (by repeat (first | with_reducible exact Below.refl _ _ | with_reducible assumption | with_reducible refine Below.alloc ?_ ?_ _ | with_reducible refine Below.setCell ?_ ?_ _ | with_reducible refine Below.drew ?_ | with_reducible refine below_drewN ?_ _ | with_reducible refine Below.trans ?_ (Below.mono (by assumption) ?_) | omega | ((repeat (first | rw [World.size_alloc] | rw [size_setCell] | rw [size_drewN] | rw [size_drew])); omega) | exact Nat.le_refl _ | (dsimp only; omega) | (simp [World.setCell]; omega)))

set_option maxHeartbeats 800000 in
theorem eqTranslator_same (u u' : Value) (l : List Int) (t : ByteArray) (w : World) (hr : Rows w u l.length 1 (ints l)) (hr' : Rows w u' l.length 1 (ints l)) (hl : l.length ≤ 1048576) :
    Calls Tryz.prog 42 #[.agg #[u, .string t], .agg #[u', .string t]] w fun e w' => e = .returned (.bool true) ∧ Below w.heap.size w w' := by
  have HB := Lib.hid (Joins.below_alloc2 w (.cells #[u, .string t] 78) (.cells #[u', .string t] 78))
  have HE := Lib.hid (eqIntS_same u u' l _ (hr.keep HB.out) (hr'.keep HB.out) hl)
  have HC := Lib.hid (show ((w.alloc (.cells #[u, .string t] 78)).alloc (.cells #[u', .string t] 78)).cell? ⟨w.heap.size, 1, none⟩ = some (.string t) by simp [go_sem])
  have HD := Lib.hid (show ((w.alloc (.cells #[u, .string t] 78)).alloc (.cells #[u', .string t] 78)).cell? ⟨w.heap.size + 1, 1, none⟩ = some (.string t) by simp [go_sem])
  obtain ⟨a, cap, rfl, _, _⟩ := rows_form hr
  obtain ⟨a', cap', rfl, _, _⟩ := rows_form hr'
  clear hr hr'
  go_enter Tryz.func42, Tryz.ntmps42
  go_wp2_with (go_at_call 37; refine HE.out.mono ?_; rintro e w1 ⟨rfl, hd⟩; have hb1 := hd.below; have c1 := keepcE hb1 HC.out; have c2 := keepcE hb1 HD.out; have HB1 := Lib.hid (HB.out.trans (hb1.mono HB.out.size)); clear hd hb1)
  go_ret
  exact ⟨rfl, HB1.out⟩

/-- a translator as it lies in an argument -/
def Trn (w : World) (v : Value) (q : List Int × ByteArray) : Prop := ∃ u, v = .agg #[u, .string q.2] ∧ Rows w u q.1.length 1 (ints q.1) ∧ (∀ n ∈ q.1, (Lit.int .i64 n).wf = true) ∧ q.2.size ≤ maxLen
section
open Go.ChangeShapes Go.WideShapes Go.Deep
variable {H : Type} {enc : TypeId × Value → H} {P : Program} {w : World} {base : Nat} {spare : Nat → Bool} {held : Bool}
theorem open_trnR {r : Reach} {b0 : Nat} {t te ti ts : TypeId} {g0 g1 : Field} {v : Value} {d : DataW H} {p : List MemPlace} (hs : P.underlying t = some (.struct #[g0, g1])) (hone : oneCellFields P #[g0, g1] = true) (hC : P.cellsOf t = 2) (hg : g0.type = te) (hg' : g1.type = ts)
    (ht : P.underlying te = some (.slice ti)) (ui : P.underlying ti = some (.int .i64)) (ci : P.cellsOf ti = 1) (us : P.underlying ts = some .string)
    (hv : Value.okWide P w r b0 t v) (h : DataW.Trod enc P w base spare held t v d p) :
    ∃ q : List Int × ByteArray, Trn w v q := by
  obtain ⟨cs, rfl, hl, n, hg2⟩ := open_agg hs hone hC hv h
  obtain ⟨c, y, e1, e2⟩ := hg2 0 g0 rfl
  obtain ⟨c', y', e1', e2'⟩ := hg2 1 g1 rfl
  obtain rfl := list2 hl e1 e1'
  rw [hg] at e2
  rw [hg'] at e2'
  obtain ⟨z, hz, hz2⟩ := ints_of_trod ht ui ci e2
  obtain ⟨s, es, _, ws⟩ := DataW.trod_string us e2'
  simp only [List.cons.injEq, and_true] at es
  subst es
  exact ⟨(z, s), c, rfl, hz, hz2, ws⟩
end

end Go.Proofs.YtdidgaibgkdjoaaGreatDoor
