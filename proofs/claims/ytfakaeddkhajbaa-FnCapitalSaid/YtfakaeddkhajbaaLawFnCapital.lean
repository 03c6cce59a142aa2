/-
  THE CLAIM: the law FnCapital returns true for every code, and its argument reads afterwards as before. Conditions: none beyond the given statement's own.
-/
import Derived.Test.YtfakaeddkhajbaaDrawStates
import Derived.Test.YtfakaeddkhajbaaPlainCap
import Derived.Test.YtfakaeddkhajbaaOpenB
import Derived.ProofKit
import Derived.OpenShut
import Derived.ShutString
import Derived.ChangeOld
import Derived.Below
import Derived.WalkSmall
import Derived.Test.YtfakaeddkhajbaaOpen
namespace Go.Proofs.Ytfakaeddkhajbaa
open Go.RowKit

set_option maxRecDepth 20000 in
set_option maxHeartbeats 1600000 in
theorem FnCapital_walk (v : Value) (l : List Int) (w : World) (h : Rows w v l.length 1 (u8s l) ∧ allByte l) :
    Calls Try.prog 10 #[v] w fun e w' => e = .returned (.bool true) ∧ Below w.heap.size w w' := by
  have HC : Code8 w v := ⟨l, h.2, h.1⟩
  obtain ⟨ar, cap, rfl, hcap, hmax, _, _, _⟩ := h.1
  unfold maxLen at hmax
  clear h
  by_cases hbig : 65536 < l.length
  · go_enter Try.func10, Try.ntmps10
    go_wp2_with ((go_at_call 14; go_in))
    go_ret
    exact ⟨rfl, (by repeat (first | with_reducible exact Below.refl _ _ | with_reducible assumption | with_reducible refine Below.alloc ?_ ?_ _ | with_reducible refine Below.setCell ?_ ?_ _ | with_reducible refine Below.drew ?_ | with_reducible refine below_drewN ?_ _ | with_reducible refine Below.trans ?_ (Below.mono (by assumption) ?_) | omega | ((repeat (first | rw [World.size_alloc] | rw [size_setCell] | rw [size_drewN] | rw [size_drew])); omega) | exact Nat.le_refl _ | (dsimp only; omega) | (simp [World.setCell]; omega)))⟩
  go_enter Try.func10, Try.ntmps10
  go_upto_region 4 with (first | (go_at_call 14; go_in) | (go_at_call 56; refine (DrawLastWord_any _ _ HC).mono ?_; rintro e w1 ⟨t, j, g, c, k, rfl, ht0, hb⟩; have ht : t.size ≤ maxLen := (by unfold maxLen; omega); have B1 := Lib.hid hb; clear hb))
  clear HC hbig hmax hcap
  have HL1 := Lib.hid (fun W => LastWord_any t j g c k W ht)
  have HS1 := Lib.hid (fun W => specLastWord_any t j g c k W ht)
  cases hs : Pl.sOk ⟨t, j, g, c, k⟩
  · have hv : Pl.validState t c k = false := hs
    have hl : Pl.lastWord t c k = ⟨#[]⟩ := by unfold Pl.lastWord; rw [hv]; rfl
    rw [hv, hl] at HL1 HS1
    have hem := Pl.none_empty
    clear hs hv hl
    go_wp2_with (first | (go_at_call 57; (with_reducible refine (HL1.out _).mono ?_); rintro e w2 ⟨rfl, hb⟩; have B2 := Lib.hid (by first | with_reducible exact below_nx B1.out hb | with_reducible exact below_nx (B1.out.alloc B1.out.size _) hb); have A2 := Lib.hid ((St.new w1 t j g c k 59).keep hb); clear hb; have la := A2.out.lt; obtain ⟨a0, a1, a2, a3, a4, _⟩ := A2.out; dsimp only at a0 a1 a2 a3 a4) | (go_at_call 58; (with_reducible refine (HS1.out _).mono ?_); rintro e w3 ⟨rfl, hb⟩; clear a0 a1 a2 a3 a4 la; have B3 := Lib.hid (by first | with_reducible exact below_nx B2.out hb | with_reducible exact below_nx (B2.out.alloc B2.out.size _) hb); have A3 := Lib.hid (by first | with_reducible exact A2.out.keep hb | with_reducible exact (A2.out.alloc _).keep hb); clear hb; have la := A3.out.lt; obtain ⟨a0, a1, a2, a3, a4, _⟩ := A3.out; dsimp only at a0 a1 a2 a3 a4))
    go_ret
    exact ⟨rfl, B3.out⟩
  have hv : Pl.validState t c k = true := hs
  rw [hv] at HL1 HS1
  generalize Pl.lastWord t c k = lw at HL1 HS1
  have h6 := fun W => ApplyAtom_any t j g c k 6 ⟨#[46]⟩ W ht (by decide)
  by_cases hz1 : t.size + 1 ≤ 2000
  · obtain ⟨y1, y2, y3⟩ := Pl.stop_yes hs hz1
    have y1 : Pl.apOk ⟨t, j, g, c, k⟩ 6 ⟨#[46]⟩ = true := y1
    have y2 : Pl.apOut ⟨t, j, g, c, k⟩ 6 ⟨#[46]⟩ = Pl.stopped ⟨t, j, g, c, k⟩ := y2
    have q1 := Pl.stopped_size ⟨t, j, g, c, k⟩
    by_cases hz5 : t.size + 5 ≤ 2000
    · obtain ⟨x1, x2, x3⟩ := Pl.cat_yes y3 hz5
      obtain ⟨p1, p2, p3⟩ := Pl.low9_yes y3 hz1
      obtain ⟨r1, r2, r3⟩ := Pl.small_yes p3 hz5
      have u1 := Pl.named_last x3
      have u2 := Pl.small_last r3
      have v1 : Pl.validState (Pl.named ⟨t, j, g, c, k⟩).t (Pl.named ⟨t, j, g, c, k⟩).c (Pl.named ⟨t, j, g, c, k⟩).k = true := x3
      have v2 : Pl.validState (Pl.small ⟨t, j, g, c, k⟩).t (Pl.small ⟨t, j, g, c, k⟩).c (Pl.small ⟨t, j, g, c, k⟩).k = true := r3
      have x1 : Pl.apOk (Pl.stopped ⟨t, j, g, c, k⟩) 1 ⟨#[99, 97, 116]⟩ = true := x1
      have x2 : Pl.apOut (Pl.stopped ⟨t, j, g, c, k⟩) 1 ⟨#[99, 97, 116]⟩ = Pl.named ⟨t, j, g, c, k⟩ := x2
      have r1 : Pl.apOk (Pl.lowered ⟨t, j, g, c, k⟩) 1 ⟨#[67, 97, 116]⟩ = true := r1
      have r2 : Pl.apOut (Pl.lowered ⟨t, j, g, c, k⟩) 1 ⟨#[67, 97, 116]⟩ = Pl.small ⟨t, j, g, c, k⟩ := r2
      have u1 : Pl.lastWord (Pl.named ⟨t, j, g, c, k⟩).t (Pl.named ⟨t, j, g, c, k⟩).c (Pl.named ⟨t, j, g, c, k⟩).k = ⟨#[67, 97, 116]⟩ := u1
      have u2 : Pl.lastWord (Pl.small ⟨t, j, g, c, k⟩).t (Pl.small ⟨t, j, g, c, k⟩).c (Pl.small ⟨t, j, g, c, k⟩).k = ⟨#[99, 97, 116]⟩ := u2
      have c0 : (Pl.named ⟨t, j, g, c, k⟩).c = 0 := rfl
      have z1 := Pl.sOk_size y3
      have z2 := Pl.sOk_size x3
      have z3 := Pl.sOk_size p3
      have z4 := Pl.sOk_size r3
      generalize Pl.stopped ⟨t, j, g, c, k⟩ = st at *
      generalize Pl.named ⟨t, j, g, c, k⟩ = nm at *
      generalize Pl.lowered ⟨t, j, g, c, k⟩ = lo at *
      generalize Pl.small ⟨t, j, g, c, k⟩ = sm at *
      obtain ⟨t1, j1, g1, c1, k1⟩ := st
      obtain ⟨t2, j2, g2, c2, k2⟩ := nm
      obtain ⟨t3, j3, g3, c3, k3⟩ := lo
      obtain ⟨t4, j4, g4, c4, k4⟩ := sm
      dsimp only at c0 z1 z2 z3 z4 u1 u2 v1 v2
      subst c0
      have h1' := fun W => ApplyAtom_any t1 j1 g1 c1 k1 1 ⟨#[99, 97, 116]⟩ W (by unfold maxLen; omega) (by decide)
      have h9' := fun W => ApplyAtom_any t1 j1 g1 c1 k1 9 ⟨#[]⟩ W (by unfold maxLen; omega) (by decide)
      have h4' := fun W => ApplyAtom_any t3 j3 g3 c3 k3 1 ⟨#[67, 97, 116]⟩ W (by unfold maxLen; omega) (by decide)
      have l2' := fun W => LastWord_any t2 j2 g2 0 k2 W (by unfold maxLen; omega)
      have l4' := fun W => LastWord_any t4 j4 g4 c4 k4 W (by unfold maxLen; omega)
      rw [y1, y2] at h6
      rw [x1, x2] at h1'
      rw [p1, p2] at h9'
      rw [r1, r2] at h4'
      rw [u1, v1] at l2'
      rw [u2, v2] at l4'
      dsimp only at h6 h1' h9' h4'
      have HA1 := Lib.hid h6
      have HA2 := Lib.hid h1'
      have HA3 := Lib.hid h9'
      have HA4 := Lib.hid h4'
      have HL2 := Lib.hid l2'
      have HL4 := Lib.hid l4'
      clear h6 h1' h9' h4' l2' l4' x1 x2 x3 p1 p2 p3 r1 r2 r3 u1 u2 v1 v2 y1 y2 y3 q1 hs hv z1 z2 z3 z4
      go_wp2_with (first | (go_at_call 57; (with_reducible refine (HL1.out _).mono ?_); rintro e w2 ⟨rfl, hb⟩; have B2 := Lib.hid (by first | with_reducible exact below_nx B1.out hb | with_reducible exact below_nx (B1.out.alloc B1.out.size _) hb); have A2 := Lib.hid ((St.new w1 t j g c k 59).keep hb); clear hb; have la := A2.out.lt; obtain ⟨a0, a1, a2, a3, a4, _⟩ := A2.out; dsimp only at a0 a1 a2 a3 a4) | (go_at_call 58; (with_reducible refine (HS1.out _).mono ?_); rintro e w3 ⟨rfl, hb⟩; clear a0 a1 a2 a3 a4 la; have B3 := Lib.hid (by first | with_reducible exact below_nx B2.out hb | with_reducible exact below_nx (B2.out.alloc B2.out.size _) hb); have A3 := Lib.hid (by first | with_reducible exact A2.out.keep hb | with_reducible exact (A2.out.alloc _).keep hb); clear hb; have la := A3.out.lt; obtain ⟨a0, a1, a2, a3, a4, _⟩ := A3.out; dsimp only at a0 a1 a2 a3 a4) | (go_at_call 49; (with_reducible refine (HA1.out _).mono ?_); rintro e w4 ⟨rfl, hb⟩; clear a0 a1 a2 a3 a4 la; have B4 := Lib.hid (by first | with_reducible exact below_nx B3.out hb | with_reducible exact below_nx (B3.out.alloc B3.out.size _) hb); have A4 := Lib.hid (by first | with_reducible exact A3.out.keep hb | with_reducible exact (A3.out.alloc _).keep hb); clear hb; have la := A4.out.lt; obtain ⟨a0, a1, a2, a3, a4, _⟩ := A4.out; dsimp only at a0 a1 a2 a3 a4) | (go_at_call 49; (with_reducible refine (HA2.out _).mono ?_); rintro e w5 ⟨rfl, hb⟩; clear a0 a1 a2 a3 a4 la; have B5 := Lib.hid (by first | with_reducible exact below_nx B4.out hb | with_reducible exact below_nx (B4.out.alloc B4.out.size _) hb); have A5 := Lib.hid (by first | with_reducible exact A4.out.keep hb | with_reducible exact (A4.out.alloc _).keep hb); have M5 := Lib.hid ((St.new w4 t1 j1 g1 c1 k1 59).keep hb); clear hb; have la := A5.out.lt; obtain ⟨a0, a1, a2, a3, a4, _⟩ := A5.out; dsimp only at a0 a1 a2 a3 a4; have lm := M5.out.lt; obtain ⟨m0, m1, m2, m3, m4, _⟩ := M5.out; dsimp only at m0 m1 m2 m3 m4) | (go_at_call 57; (with_reducible refine (HL2.out _).mono ?_); rintro e w6 ⟨rfl, hb⟩; clear a0 a1 a2 a3 a4 m0 m1 m2 m3 m4 la lm; have B6 := Lib.hid (by first | with_reducible exact below_nx B5.out hb | with_reducible exact below_nx (B5.out.alloc B5.out.size _) hb); have M6 := Lib.hid (by first | with_reducible exact M5.out.keep hb | with_reducible exact (M5.out.alloc _).keep hb); have D6 := Lib.hid ((St.new w5 t2 j2 g2 0 k2 59).keep hb); clear hb; have lm := M6.out.lt; obtain ⟨m0, m1, m2, m3, m4, _⟩ := M6.out; dsimp only at m0 m1 m2 m3 m4; have ld := D6.out.lt; obtain ⟨d0, d1, d2, d3, d4, _⟩ := D6.out; dsimp only at d0 d1 d2 d3 d4) | (go_at_call 49; (with_reducible refine (HA3.out _).mono ?_); rintro e w7 ⟨rfl, hb⟩; clear m0 m1 m2 m3 m4 d0 d1 d2 d3 d4 lm ld; have B7 := Lib.hid (by first | with_reducible exact below_nx B6.out hb | with_reducible exact below_nx (B6.out.alloc B6.out.size _) hb); have D7 := Lib.hid (by first | with_reducible exact D6.out.keep hb | with_reducible exact (D6.out.alloc _).keep hb); clear hb; have ld := D7.out.lt; obtain ⟨d0, d1, d2, d3, d4, _⟩ := D7.out; dsimp only at d0 d1 d2 d3 d4) | (go_at_call 49; (with_reducible refine (HA4.out _).mono ?_); rintro e w8 ⟨rfl, hb⟩; clear d0 d1 d2 d3 d4 ld; have B8 := Lib.hid (by first | with_reducible exact below_nx B7.out hb | with_reducible exact below_nx (B7.out.alloc B7.out.size _) hb); have D8 := Lib.hid (by first | with_reducible exact D7.out.keep hb | with_reducible exact (D7.out.alloc _).keep hb); clear hb; have ld := D8.out.lt; obtain ⟨d0, d1, d2, d3, d4, _⟩ := D8.out; dsimp only at d0 d1 d2 d3 d4) | (go_at_call 57; (with_reducible refine (HL4.out _).mono ?_); rintro e w9 ⟨rfl, hb⟩; clear d0 d1 d2 d3 d4 ld; have B9 := Lib.hid (by first | with_reducible exact below_nx B8.out hb | with_reducible exact below_nx (B8.out.alloc B8.out.size _) hb); have D9 := Lib.hid (by first | with_reducible exact D8.out.keep hb | with_reducible exact (D8.out.alloc _).keep hb); clear hb; have ld := D9.out.lt; obtain ⟨d0, d1, d2, d3, d4, _⟩ := D9.out; dsimp only at d0 d1 d2 d3 d4))
      go_ret
      exact ⟨rfl, B9.out⟩
    · obtain ⟨x1, x2⟩ := Pl.cat_no (s := ⟨t, j, g, c, k⟩) hz5
      have x1 : Pl.apOk (Pl.stopped ⟨t, j, g, c, k⟩) 1 ⟨#[99, 97, 116]⟩ = false := x1
      have x2 : Pl.apOut (Pl.stopped ⟨t, j, g, c, k⟩) 1 ⟨#[99, 97, 116]⟩ = Pl.nil := x2
      have z1 := Pl.sOk_size y3
      have hbig : (1900 : Int) < (t.size : Int) := by omega
      generalize Pl.stopped ⟨t, j, g, c, k⟩ = st at *
      obtain ⟨t1, j1, g1, c1, k1⟩ := st
      dsimp only at z1
      have h1' := fun W => ApplyAtom_any t1 j1 g1 c1 k1 1 ⟨#[99, 97, 116]⟩ W (by unfold maxLen; omega) (by decide)
      rw [y1, y2] at h6
      rw [x1, x2] at h1'
      dsimp only [Pl.nil] at h6 h1'
      have HA1 := Lib.hid h6
      have HA2 := Lib.hid h1'
      clear h6 h1' x1 x2 y1 y2 y3 q1 hs hv z1
      go_wp2_with (first | (go_at_call 57; (with_reducible refine (HL1.out _).mono ?_); rintro e w2 ⟨rfl, hb⟩; have B2 := Lib.hid (by first | with_reducible exact below_nx B1.out hb | with_reducible exact below_nx (B1.out.alloc B1.out.size _) hb); have A2 := Lib.hid ((St.new w1 t j g c k 59).keep hb); clear hb; have la := A2.out.lt; obtain ⟨a0, a1, a2, a3, a4, _⟩ := A2.out; dsimp only at a0 a1 a2 a3 a4) | (go_at_call 58; (with_reducible refine (HS1.out _).mono ?_); rintro e w3 ⟨rfl, hb⟩; clear a0 a1 a2 a3 a4 la; have B3 := Lib.hid (by first | with_reducible exact below_nx B2.out hb | with_reducible exact below_nx (B2.out.alloc B2.out.size _) hb); have A3 := Lib.hid (by first | with_reducible exact A2.out.keep hb | with_reducible exact (A2.out.alloc _).keep hb); clear hb; have la := A3.out.lt; obtain ⟨a0, a1, a2, a3, a4, _⟩ := A3.out; dsimp only at a0 a1 a2 a3 a4) | (go_at_call 49; (with_reducible refine (HA1.out _).mono ?_); rintro e w4 ⟨rfl, hb⟩; clear a0 a1 a2 a3 a4 la; have B4 := Lib.hid (by first | with_reducible exact below_nx B3.out hb | with_reducible exact below_nx (B3.out.alloc B3.out.size _) hb); have A4 := Lib.hid (by first | with_reducible exact A3.out.keep hb | with_reducible exact (A3.out.alloc _).keep hb); clear hb; have la := A4.out.lt; obtain ⟨a0, a1, a2, a3, a4, _⟩ := A4.out; dsimp only at a0 a1 a2 a3 a4) | (go_at_call 49; (with_reducible refine (HA2.out _).mono ?_); rintro e w5 ⟨rfl, hb⟩; clear a0 a1 a2 a3 a4 la; have B5 := Lib.hid (by first | with_reducible exact below_nx B4.out hb | with_reducible exact below_nx (B4.out.alloc B4.out.size _) hb); have A5 := Lib.hid (by first | with_reducible exact A4.out.keep hb | with_reducible exact (A4.out.alloc _).keep hb); have M5 := Lib.hid ((St.new w4 t1 j1 g1 c1 k1 59).keep hb); clear hb; have la := A5.out.lt; obtain ⟨a0, a1, a2, a3, a4, _⟩ := A5.out; dsimp only at a0 a1 a2 a3 a4; have lm := M5.out.lt; obtain ⟨m0, m1, m2, m3, m4, _⟩ := M5.out; dsimp only at m0 m1 m2 m3 m4))
      go_ret
      exact ⟨rfl, B5.out.alloc B5.out.size _⟩
  · obtain ⟨y1, y2⟩ := Pl.stop_no (s := ⟨t, j, g, c, k⟩) hz1
    have y1 : Pl.apOk ⟨t, j, g, c, k⟩ 6 ⟨#[46]⟩ = false := y1
    have y2 : Pl.apOut ⟨t, j, g, c, k⟩ 6 ⟨#[46]⟩ = Pl.nil := y2
    have hbig : (1900 : Int) < (t.size : Int) := by omega
    have h1' := fun W => ApplyAtom_any ⟨#[]⟩ false false 0 0 1 ⟨#[99, 97, 116]⟩ W (by decide) (by decide)
    generalize Pl.apOut ⟨⟨#[]⟩, false, false, 0, 0⟩ 1 ⟨#[99, 97, 116]⟩ = nm at h1'
    generalize Pl.apOk ⟨⟨#[]⟩, false, false, 0, 0⟩ 1 ⟨#[99, 97, 116]⟩ = okn at h1'
    obtain ⟨t2, j2, g2, c2, k2⟩ := nm
    rw [y1, y2] at h6
    dsimp only [Pl.nil] at h6 h1'
    have HA1 := Lib.hid h6
    have HA2 := Lib.hid h1'
    clear h6 h1' y1 y2 hs hv
    go_wp2_with (first | (go_at_call 57; (with_reducible refine (HL1.out _).mono ?_); rintro e w2 ⟨rfl, hb⟩; have B2 := Lib.hid (by first | with_reducible exact below_nx B1.out hb | with_reducible exact below_nx (B1.out.alloc B1.out.size _) hb); have A2 := Lib.hid ((St.new w1 t j g c k 59).keep hb); clear hb; have la := A2.out.lt; obtain ⟨a0, a1, a2, a3, a4, _⟩ := A2.out; dsimp only at a0 a1 a2 a3 a4) | (go_at_call 58; (with_reducible refine (HS1.out _).mono ?_); rintro e w3 ⟨rfl, hb⟩; clear a0 a1 a2 a3 a4 la; have B3 := Lib.hid (by first | with_reducible exact below_nx B2.out hb | with_reducible exact below_nx (B2.out.alloc B2.out.size _) hb); have A3 := Lib.hid (by first | with_reducible exact A2.out.keep hb | with_reducible exact (A2.out.alloc _).keep hb); clear hb; have la := A3.out.lt; obtain ⟨a0, a1, a2, a3, a4, _⟩ := A3.out; dsimp only at a0 a1 a2 a3 a4) | (go_at_call 49; (with_reducible refine (HA1.out _).mono ?_); rintro e w4 ⟨rfl, hb⟩; clear a0 a1 a2 a3 a4 la; have B4 := Lib.hid (by first | with_reducible exact below_nx B3.out hb | with_reducible exact below_nx (B3.out.alloc B3.out.size _) hb); have A4 := Lib.hid (by first | with_reducible exact A3.out.keep hb | with_reducible exact (A3.out.alloc _).keep hb); clear hb; have la := A4.out.lt; obtain ⟨a0, a1, a2, a3, a4, _⟩ := A4.out; dsimp only at a0 a1 a2 a3 a4) | (go_at_call 49; (with_reducible refine (HA2.out _).mono ?_); rintro e w5 ⟨rfl, hb⟩; clear a0 a1 a2 a3 a4 la; have B5 := Lib.hid (by first | with_reducible exact below_nx B4.out hb | with_reducible exact below_nx (B4.out.alloc B4.out.size _) hb); have A5 := Lib.hid (by first | with_reducible exact A4.out.keep hb | with_reducible exact (A4.out.alloc _).keep hb); have M5 := Lib.hid ((St.new w4 ⟨#[]⟩ false false 0 0 59).keep hb); clear hb; have la := A5.out.lt; obtain ⟨a0, a1, a2, a3, a4, _⟩ := A5.out; dsimp only at a0 a1 a2 a3 a4; have lm := M5.out.lt; obtain ⟨m0, m1, m2, m3, m4, _⟩ := M5.out; dsimp only at m0 m1 m2 m3 m4))
    go_ret
    exact ⟨rfl, B5.out.alloc B5.out.size _⟩

namespace fnCapital
open Go.ChangeShapes Go.WideShapes Go.ChangeAt Go.RowKit
open Go.ChangeMaps (open_string shut_string)
set_option linter.unusedVariables false
theorem own : ownKnob Try.prog.godebug = none := by kernel_rfl
theorem laidOut : laidOutB Try.prog = true := by kernel_rfl
set_option maxRecDepth 100000 in
theorem lifted (os : Os) (started : os.Started) (H : Type) (enc : TypeId × Value → H) :
    ReturnsInHanded {} Try.checked os 10 .any (Rows.fnCapitalSpec.pre6 enc Try.prog Try.f10 Rows.fnCapitalRow.domain false) (Rows.fnCapitalSpec.post enc Try.prog Try.f10 false true false false) := by
  refine returnsInHanded_of_change (C := Try.checked) own started (by kernel_rfl) Try.func10
    (ChangeSpec.witness6 (enc := enc) (C := Try.checked) false ⟨#[], #[.slice none 0 0], []⟩ 8 (by kernel_rfl) (by kernel_rfl) (by kernel_rfl) (by kernel_rfl)) ?_
  intro W base args ds gs before hval0 hW hcnd _
  have hval : ∀ (j : Nat) t v, Try.f10.params[j]? = some t → args[j]? = some v → Value.okWide Try.prog W .any base t v := hval0
  have hW' := hW
  obtain ⟨p, q, hA0, hV, rfl, hfz, hnd⟩ := hW
  have hA : DataW.TrodAll enc Try.prog W 0 (fun _ => true) true Try.f10.params.toList args.toList ds p := hA0
  rw [Try.params10] at hA hval
  obtain ⟨v0, vs0, d0, ds0, p0, q0, hargs, rfl, rfl, h0, r0⟩ := trodAll_cons hA
  obtain ⟨rfl, rfl, rfl⟩ := trodAll_nil r0
  obtain rfl : args = #[v0] := by cases args; simp_all
  obtain ⟨rfl, rfl⟩ := trodVars_none hV
  have k0 := h0
  have lt0 : ∀ x ∈ p0, x.block < W.heap.size := by obtain ⟨m, hm⟩ := k0; exact DataW.trod_lt m _ _ _ hm
  obtain ⟨a0, w0⟩ := (fun W v hv h => open_bytesR (w := W) (v := v) Try.underlying22 Try.underlying5 (by kernel_rfl) hv h) W v0 (hval 0 22 v0 rfl rfl) h0
  clear hA0 hval0
  refine (FnCapital_walk v0 a0 W w0).mono fun e W' ⟨he, bel⟩ => ?_
  subst he
  exact ⟨_, rfl, _, _, _, [], _, [], hW', trodAll_mk1 (shut_bool Try.underlying4 _), (trodAll_cons_mk (Below.trod laidOut (by kernel_rfl) (of_decide_eq_true (by kernel_rfl)) k0 bel lt0) trodAll_mk0), rfl, bel.frame _, fun h => by cases h⟩
theorem over : Rows.fnCapitalRow.holds Try.pinned (OpenSpec.ofChange Rows.fnCapitalSpec) :=
  OpenClaim.holds_of_wide 10 Try.f10 rfl rfl rfl rfl rfl rfl rfl ⟨rfl, rfl, rfl, rfl, rfl⟩ rfl rfl rfl rfl rfl (by kernel_rfl) Try.func10 (by kernel_rfl)
    (of_decide_eq_true (by kernel_rfl)) (by unfold Func.isWrapper; first | (rw [if_pos (by decide +kernel)]; kernel_rfl) | (rw [if_neg (by decide +kernel)]; exact ⟨rfl, rfl⟩))
    (fun os started H enc _ => lifted os started H enc)
theorem proved : Rows.FnCapitalSaid := over
#print axioms proved
end fnCapital

end Go.Proofs.Ytfakaeddkhajbaa
