/-
  CONTRACTS: ApplyAtom of the program and of the reference.
-/
import Derived.Test.YtdidgaibgkdjoaaGreatDoorStApply
import Derived.Test.YtdidgaibgkdjoaaGreatDoorStSpec
import Derived.Test.YtdidgaibgkdjoaaGreatDoorPlainAtoms
import Derived.Test.YtdidgaibgkdjoaaGreatDoorBasS
namespace Go.Proofs.YtdidgaibgkdjoaaGreatDoor
open Go.RowKit

theorem St.new (w : World) (t : ByteArray) (j g : Bool) (c k : Int) (T : TypeId) : St (w.alloc (.cells #[.string t, .bool j, .bool g, .int .i64 c, .int .i64 k] T)) w.heap.size ⟨t, j, g, c, k⟩ := by
  refine ⟨?_, ?_, ?_, ?_, ?_, fun i => ?_⟩
  all_goals simp [go_sem]
theorem St.grown {w w' : World} {b B : Nat} {s : Pl.Sta} (h : St w B s) (hg : w.grownBy w' (some b)) (hne : B ≠ b) : St w' B s := by
  have hl := h.lt
  obtain ⟨c0, c1, c2, c3, c4, hf⟩ := h
  refine ⟨grown_cell hg hne c0, grown_cell hg hne c1, grown_cell hg hne c2, grown_cell hg hne c3, grown_cell hg hne c4, fun i => ?_⟩
  have hb := hg.block B hl (fun e => hne (by injection e))
  have := hf i
  unfold World.frozen? at this ⊢
  simpa [hb] using this
/-- two cells of an atom -/
def Atm (w : World) (b : Nat) (a : Int) (x : ByteArray) : Prop := w.cell? ⟨b, 0, none⟩ = some (.int .i64 a) ∧ w.cell? ⟨b, 1, none⟩ = some (.string x)
theorem Atm.keep {w w' : World} {b : Nat} {a : Int} {x : ByteArray} (h : Atm w b a x) (hb : Below w.heap.size w w') : Atm w' b a x := ⟨keepE hb h.1, keepE hb h.2⟩
theorem Atm.alloc {w : World} {b : Nat} {a : Int} {x : ByteArray} (h : Atm w b a x) (o : Obj) : Atm (w.alloc o) b a x := h.keep ((Below.refl _ _).alloc (Nat.le_refl _) o)
theorem Atm.new (w : World) (a : Int) (x : ByteArray) (T : TypeId) : Atm (w.alloc (.cells #[.int .i64 a, .string x] T)) w.heap.size a x := by
  constructor <;> simp [go_sem]
theorem boxed2 (w : World) (o1 o2 o3 : Obj) : (((w.alloc o1).alloc o2).alloc o3).heap.size = w.heap.size + 1 + 1 + 1 := by simp [World.size_alloc]
theorem size1 (w : World) (o1 : Obj) : (w.alloc o1).heap.size = w.heap.size + 1 := by simp [World.size_alloc]
theorem size2 (w : World) (o1 o2 : Obj) : ((w.alloc o1).alloc o2).heap.size = w.heap.size + 1 + 1 := by simp [World.size_alloc]

/-- what is laid before the first call -/
theorem laid3 (w : World) (t : ByteArray) (j g : Bool) (c k : Int) (a : Int) (x : ByteArray) (T U : TypeId) :
    St (((w.alloc (.cells #[.string t, .bool j, .bool g, .int .i64 c, .int .i64 k] T)).alloc (.cells #[.int .i64 a, .string x] U)).alloc (.cells #[.string ⟨#[]⟩, .bool false, .bool false, .int .i64 0, .int .i64 0] T)) w.heap.size ⟨t, j, g, c, k⟩ ∧
    Atm (((w.alloc (.cells #[.string t, .bool j, .bool g, .int .i64 c, .int .i64 k] T)).alloc (.cells #[.int .i64 a, .string x] U)).alloc (.cells #[.string ⟨#[]⟩, .bool false, .bool false, .int .i64 0, .int .i64 0] T)) (w.heap.size + 1) a x ∧
    St (((w.alloc (.cells #[.string t, .bool j, .bool g, .int .i64 c, .int .i64 k] T)).alloc (.cells #[.int .i64 a, .string x] U)).alloc (.cells #[.string ⟨#[]⟩, .bool false, .bool false, .int .i64 0, .int .i64 0] T)) (w.heap.size + 1 + 1) Pl.nil := by
  refine ⟨((St.new w t j g c k T).alloc _).alloc _, ?_, ?_⟩
  · have h := (Atm.new (w.alloc (.cells #[.string t, .bool j, .bool g, .int .i64 c, .int .i64 k] T)) a x U)
    rw [size1] at h
    exact h.alloc _
  · have h := St.new ((w.alloc (.cells #[.string t, .bool j, .bool g, .int .i64 c, .int .i64 k] T)).alloc (.cells #[.int .i64 a, .string x] U)) ⟨#[]⟩ false false 0 0 T
    rw [size2] at h
    exact h
theorem laid3_below (w : World) (o1 o2 o3 : Obj) : Below w.heap.size w (((w.alloc o1).alloc o2).alloc o3) :=
  (((Below.refl _ _).alloc (Nat.le_refl _) _).alloc (by rw [size1]; omega) _).alloc (by rw [size2]; omega) _

set_option maxRecDepth 20000 in
set_option maxHeartbeats 1600000 in
theorem ApplyAtom_any (t : ByteArray) (j g : Bool) (c k : Int) (a : Int) (x : ByteArray) (w : World) (ht : t.size ≤ maxLen) (hx : x.size ≤ maxLen) :
    Calls Tryz.prog 188 #[.agg #[.string t, .bool j, .bool g, .int .i64 c, .int .i64 k], .agg #[.int .i64 a, .string x]] w fun e w' => e = .returned (.tuple #[.agg #[.string (Pl.apOut ⟨t, j, g, c, k⟩ a x).t, .bool (Pl.apOut ⟨t, j, g, c, k⟩ a x).j, .bool (Pl.apOut ⟨t, j, g, c, k⟩ a x).g, .int .i64 (Pl.apOut ⟨t, j, g, c, k⟩ a x).c, .int .i64 (Pl.apOut ⟨t, j, g, c, k⟩ a x).k], .bool (Pl.apOk ⟨t, j, g, c, k⟩ a x)]) ∧ Below w.heap.size w w' := by
  have HL := Lib.hid (laid3 w t j g c k a x 156 161)
  cases h1 : Pl.sOk ⟨t, j, g, c, k⟩
  · have E := Lib.hid (Pl.ap_bad1 (a := a) (x := x) h1)
    have h1' : Pl.validState t c k = false := h1
    clear h1
    go_enter Tryz.func188, Tryz.ntmps188
    go_wp2_with (go_at_call 187; refine (IsValidState_any _ _ _ _ _ _ ht).mono ?_; rintro e w1 ⟨he, hb1⟩; rw [h1'] at he; subst he; have Z1 := Lib.hid (HL.out.2.2.keep hb1); have B1 := Lib.hid ((laid3_below w _ _ _).trans (hb1.mono (by rw [boxed2]; omega))); have z1 : w.heap.size + 1 + 1 + 1 ≤ w1.heap.size := (by have := hb1.size; rwa [boxed2] at this); clear hb1; obtain ⟨n0, n1, n2, n3, n4, nf⟩ := Z1.out; dsimp only [Pl.nil] at n0 n1 n2 n3 n4; unfold thawed at nf)
    all_goals
      refine bodyPost_ret (v := .tuple #[.agg #[.string ⟨#[]⟩, .bool false, .bool false, .int .i64 0, .int .i64 0], .bool false]) (by simp [results, Tryz.results188, go_sem, *]) rfl ⟨by rw [E.out.1, E.out.2]; rfl, ?_⟩
      (have hB := B1.out); exact (by repeat (first | with_reducible exact Below.refl _ _ | with_reducible assumption | with_reducible refine Below.alloc ?_ ?_ _ | with_reducible refine Below.setCell ?_ ?_ _ | with_reducible refine Below.drew ?_ | with_reducible refine below_drewN ?_ _ | with_reducible refine Below.trans ?_ (Below.mono (by assumption) ?_) | omega | ((repeat (first | rw [World.size_alloc] | rw [size_setCell] | rw [size_drewN] | rw [size_drew])); omega) | exact Nat.le_refl _ | (dsimp only; omega) | (simp [World.setCell]; omega)))
  have h1' : Pl.validState t c k = true := h1
  have k1 := Pl.sOk_told h1
  dsimp only at k1
  obtain ⟨q1, q2, q3, q4, q5, q6⟩ := k1
  cases h2 : Pl.atomOk a x
  · have E := Lib.hid (Pl.ap_bad2 (s := ⟨t, j, g, c, k⟩) h2)
    clear h1
    go_enter Tryz.func188, Tryz.ntmps188
    go_wp2_with (first | (go_at_call 197; refine (IsValidAtom_any _ _ _ hx).mono ?_; rintro e w2 ⟨he, hb2⟩; rw [h2] at he; subst he; have Z2 := Lib.hid (Z1.out.keep hb2); have B2 := Lib.hid (B1.out.trans (hb2.mono B1.out.size)); have z2 := hb2.size; clear hb2 a0 a1; obtain ⟨n0, n1, n2, n3, n4, nf⟩ := Z2.out; dsimp only [Pl.nil] at n0 n1 n2 n3 n4; unfold thawed at nf) | (go_at_call 187; refine (IsValidState_any _ _ _ _ _ _ ht).mono ?_; rintro e w1 ⟨he, hb1⟩; rw [h1'] at he; subst he; have A1 := Lib.hid (HL.out.2.1.keep hb1); have Z1 := Lib.hid (HL.out.2.2.keep hb1); have B1 := Lib.hid ((laid3_below w _ _ _).trans (hb1.mono (by rw [boxed2]; omega))); have z1 : w.heap.size + 1 + 1 + 1 ≤ w1.heap.size := (by have := hb1.size; rwa [boxed2] at this); clear hb1; obtain ⟨a0, a1⟩ := A1.out))
    all_goals
      refine bodyPost_ret (v := .tuple #[.agg #[.string ⟨#[]⟩, .bool false, .bool false, .int .i64 0, .int .i64 0], .bool false]) (by simp [results, Tryz.results188, go_sem, *]) rfl ⟨by rw [E.out.1, E.out.2]; rfl, ?_⟩
      (have hB := B2.out); exact (by repeat (first | with_reducible exact Below.refl _ _ | with_reducible assumption | with_reducible refine Below.alloc ?_ ?_ _ | with_reducible refine Below.setCell ?_ ?_ _ | with_reducible refine Below.drew ?_ | with_reducible refine below_drewN ?_ _ | with_reducible refine Below.trans ?_ (Below.mono (by assumption) ?_) | omega | ((repeat (first | rw [World.size_alloc] | rw [size_setCell] | rw [size_drewN] | rw [size_drew])); omega) | exact Nat.le_refl _ | (dsimp only; omega) | (simp [World.setCell]; omega)))
  have k2 := (Pl.ap_told h1 h2).2
  have HA := Lib.hid (fun W h => apply_any w.heap.size t j g c k a x W h (by omega) (by have := (Pl.atomOk_prt h2).2; omega) q5 q6 h2)
  by_cases hz : (Pl.ap ⟨t, j, g, c, k⟩ a x).t.size ≤ 2000
  all_goals
    first | have E := Lib.hid (Pl.ap_good h1 h2 hz) | have E := Lib.hid (Pl.ap_bad3 hz)
    generalize Pl.ap ⟨t, j, g, c, k⟩ a x = s' at HA E hz k2
    obtain ⟨t', j', g', c', k'⟩ := s'
    dsimp only at hz k2
    clear h1 q2 q3 q4 q5 q6
    go_enter Tryz.func188, Tryz.ntmps188
    go_wp2_with (first | (go_at_call 208; refine (HA.out _ S2.out).mono ?_; rintro e w3 ⟨rfl, hst, hg⟩; have Z3 := Lib.hid (Z2.out.grown hg (by omega)); have B3 := Lib.hid (B2.out.grown hg B2.out.size (fun q hq => by injection hq with hq; omega)); have z3 := hg.size; have S3 := Lib.hid hst; clear hst hg a0 a1; obtain ⟨s0, s1, s2, s3, s4, sf⟩ := S3.out; obtain ⟨n0, n1, n2, n3, n4, nf⟩ := Z3.out; dsimp only [Pl.nil] at s0 s1 s2 s3 s4 n0 n1 n2 n3 n4; unfold thawed at nf) | (go_at_call 197; refine (IsValidAtom_any _ _ _ hx).mono ?_; rintro e w2 ⟨he, hb2⟩; rw [h2] at he; subst he; have S2 := Lib.hid (S1.out.keep hb2); have A2 := Lib.hid (A1.out.keep hb2); have Z2 := Lib.hid (Z1.out.keep hb2); have B2 := Lib.hid (B1.out.trans (hb2.mono B1.out.size)); have z2 := hb2.size; clear hb2 a0 a1; obtain ⟨a0, a1⟩ := A2.out) | (go_at_call 187; refine (IsValidState_any _ _ _ _ _ _ ht).mono ?_; rintro e w1 ⟨he, hb1⟩; rw [h1'] at he; subst he; have S1 := Lib.hid (HL.out.1.keep hb1); have A1 := Lib.hid (HL.out.2.1.keep hb1); have Z1 := Lib.hid (HL.out.2.2.keep hb1); have B1 := Lib.hid ((laid3_below w _ _ _).trans (hb1.mono (by rw [boxed2]; omega))); have z1 : w.heap.size + 1 + 1 + 1 ≤ w1.heap.size := (by have := hb1.size; rwa [boxed2] at this); clear hb1; obtain ⟨a0, a1⟩ := A1.out))
  · refine bodyPost_ret (v := .tuple #[.agg #[.string t', .bool j', .bool g', .int .i64 c', .int .i64 k'], .bool true]) (by simp [results, Tryz.results188, go_sem, *]) rfl ⟨by rw [E.out.1, E.out.2], ?_⟩
    have hB := B3.out
    exact (by repeat (first | with_reducible exact Below.refl _ _ | with_reducible assumption | with_reducible refine Below.alloc ?_ ?_ _ | with_reducible refine Below.setCell ?_ ?_ _ | with_reducible refine Below.drew ?_ | with_reducible refine below_drewN ?_ _ | with_reducible refine Below.trans ?_ (Below.mono (by assumption) ?_) | omega | ((repeat (first | rw [World.size_alloc] | rw [size_setCell] | rw [size_drewN] | rw [size_drew])); omega) | exact Nat.le_refl _ | (dsimp only; omega) | (simp [World.setCell]; omega)))
  · refine bodyPost_ret (v := .tuple #[.agg #[.string ⟨#[]⟩, .bool false, .bool false, .int .i64 0, .int .i64 0], .bool false]) (by simp [results, Tryz.results188, go_sem, *]) rfl ⟨by rw [E.out.1, E.out.2]; rfl, ?_⟩
    (have hB := B3.out); exact (by repeat (first | with_reducible exact Below.refl _ _ | with_reducible assumption | with_reducible refine Below.alloc ?_ ?_ _ | with_reducible refine Below.setCell ?_ ?_ _ | with_reducible refine Below.drew ?_ | with_reducible refine below_drewN ?_ _ | with_reducible refine Below.trans ?_ (Below.mono (by assumption) ?_) | omega | ((repeat (first | rw [World.size_alloc] | rw [size_setCell] | rw [size_drewN] | rw [size_drew])); omega) | exact Nat.le_refl _ | (dsimp only; omega) | (simp [World.setCell]; omega)))

end Go.Proofs.YtdidgaibgkdjoaaGreatDoor
