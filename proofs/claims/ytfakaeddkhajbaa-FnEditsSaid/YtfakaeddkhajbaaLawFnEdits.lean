/-
  THE CLAIM: the law FnEdits returns true for every code, and its argument reads afterwards as before. Conditions: none beyond the given statement's own.
-/
import Derived.Test.YtfakaeddkhajbaaEditComp
import Derived.Test.YtfakaeddkhajbaaDrawEd
import Derived.Test.YtfakaeddkhajbaaOpenB
import Derived.Test.YtfakaeddkhajbaaPlainLaws
import Derived.Test.YtfakaeddkhajbaaStLaw
import Derived.Deep.DeepCutAuto
import Derived.ProofKit
import Derived.OpenShut
import Derived.ShutString
import Derived.ChangeOld
import Derived.Below
import Derived.WalkSmall
import Derived.Test.YtfakaeddkhajbaaOpen
namespace Go.Proofs.Ytfakaeddkhajbaa
open Go.RowKit

theorem Atm.lt {w : World} {b : Nat} {a : Int} {x : ByteArray} (h : Atm w b a x) : b < w.heap.size := World.block_lt_of_cell? _ _ h.1
theorem Atm.both {w : World} {b : Nat} {a : Int} {x : ByteArray} (h : Atm w b a x) : w.cell? ⟨b, 0, none⟩ = some (.int .i64 a) ∧ w.cell? ⟨b, 1, none⟩ = some (.string x) := h
theorem Atm.drew {w : World} {b : Nat} {a : Int} {x : ByteArray} (h : Atm w b a x) : Atm w.drew b a x := h

theorem ne_list {a b : ByteArray} (h : ¬ a = b) : (!(a.toList == b.toList)) = true := by
  rw [Bool.not_eq_true', beq_eq_false_iff_ne]
  intro e; exact h (Pl.ba_ext (by rw [← Pl.ba_toList, ← Pl.ba_toList]; exact e))
theorem nil_list {t : ByteArray} (h : t.toList = []) : t = ⟨#[]⟩ := Pl.ba_ext (by rw [← Pl.ba_toList, h])

set_option maxRecDepth 20000 in
set_option maxHeartbeats 3200000 in
theorem FnEdits_walk (v : Value) (l : List Int) (w : World) (h : Rows w v l.length 1 (u8s l) ∧ allByte l) :
    Calls Try.prog 3 #[v] w fun e w' => e = .returned (.bool true) ∧ Below w.heap.size w w' := by
  have HC0 : Code8 w v := ⟨l, h.2, h.1⟩
  obtain ⟨ar, cap, rfl, hcap, hmax, _, _, _⟩ := h.1
  unfold maxLen at hmax
  clear h
  by_cases hbig : 65536 < l.length
  · go_enter Try.func3, Try.ntmps3
    go_wp2_with ((go_at_call 14; go_in))
    go_ret
    exact ⟨rfl, (by repeat (first | with_reducible exact Below.refl _ _ | with_reducible assumption | with_reducible refine Below.alloc ?_ ?_ _ | with_reducible refine Below.setCell ?_ ?_ _ | with_reducible refine Below.drew ?_ | with_reducible refine below_drewN ?_ _ | with_reducible refine Below.trans ?_ (Below.mono (by assumption) ?_) | omega | ((repeat (first | rw [World.size_alloc] | rw [size_setCell] | rw [size_drewN] | rw [size_drew])); omega) | exact Nat.le_refl _ | (dsimp only; omega) | (simp [World.setCell]; omega)))⟩
  have HC := Lib.hid HC0
  go_enter Try.func3, Try.ntmps3
  go_upto_region 4 with (first | (go_at_call 14; go_in) | (go_at_call 15; refine (DrawLeastEdit_any _ _ HC.out).mono ?_; rintro e w1 ⟨a, b, rfl, ha, hb, hbb⟩; have B1 := Lib.hid hbb; clear hbb))
  clear HC0 hbig hmax hcap
  have ha' : a.size ≤ 1048576 := by omega
  have hb' : b.size ≤ 1048576 := by omega
  have g1 := fun W => LeastEdit_any a b W ha' hb'
  have g2 := fun W => specLeastEdit_any a b W ha' hb'
  cases K0 : Pl.leastOk a b
  · obtain ⟨E1, E2⟩ := Pl.least_no K0
    rw [E1, E2, K0] at g1 g2
    have V0 : Pl.validEdit 0 ⟨#[]⟩ = true := by decide
    have g3 := fun W => IsValidEdit_any 0 ⟨#[]⟩ W (Nat.zero_le _)
    rw [V0] at g3
    have HLe := Lib.hid g1; have HLs := Lib.hid g2; have HV := Lib.hid g3
    clear g1 g2 g3 E1 E2 V0 K0 ha' hb' ha hb
    go_upto_region 9 with (first | (go_at_call 16; (with_reducible refine (HLe.out _).mono ?_); rintro e w2 ⟨rfl, hb⟩; have B2 := Lib.hid (by first | with_reducible exact below_nx B1.out hb | with_reducible exact below_nx (B1.out.alloc B1.out.size _) hb); clear hb) | (go_at_call 17; (with_reducible refine (HLs.out _).mono ?_); rintro e w3 ⟨rfl, hb⟩; have B3 := Lib.hid (by first | with_reducible exact below_nx B2.out hb | with_reducible exact below_nx (B2.out.alloc B2.out.size _) hb); have P3 := Lib.hid ((Atm.new w2 0 ⟨#[]⟩ 27).keep hb); clear hb; have lp := P3.out.lt; obtain ⟨p0, p1⟩ := P3.out) | (go_at_call 18; (with_reducible refine (HV.out _).mono ?_); rintro e w4 ⟨rfl, hb⟩; clear p0 p1 lp; have B4 := Lib.hid (by first | with_reducible exact below_nx B3.out hb | with_reducible exact below_nx (B3.out.alloc B3.out.size _) hb); have P4 := Lib.hid (by first | with_reducible exact P3.out.keep hb | with_reducible exact (P3.out.alloc _).keep hb); clear hb; have lp := P4.out.lt; obtain ⟨p0, p1⟩ := P4.out) | (go_at_call 19; (with_reducible refine (DrawApplyEdit_any _ _ (HC.out.keep B4.out)).mono ?_); rintro e w5 ⟨s, xb, xt, rfl, hs, hxb1, hxb2, hxt, hb⟩; clear p0 p1 lp; have B5 := Lib.hid (by first | with_reducible exact below_nx B4.out hb | with_reducible exact below_nx (B4.out.alloc B4.out.size _) hb); have P5 := Lib.hid (by first | with_reducible exact P4.out.keep hb | with_reducible exact (P4.out.alloc _).keep hb); clear hb; have lp := P5.out.lt; obtain ⟨p0, p1⟩ := P5.out))
    have zxt : xt.size ≤ 1048576 := by omega
    have HAi := Lib.hid (fun W => ApplyEdit_any s xb xt W (by omega) zxt)
    have HAs := Lib.hid (fun W => specApplyEdit_any s xb xt W (by omega) zxt)
    have HXi := Lib.hid (fun W => IsValidEdit_any xb xt W (by unfold maxLen; omega))
    have HXs := Lib.hid (fun W => specIsValidEdit_any xb xt W (by unfold maxLen; omega))
    clear HLe HLs HV HC
    go_upto_region 11 with (first | (go_at_call 20; (with_reducible refine (HAi.out _).mono ?_); rintro e w6 ⟨rfl, hb⟩; clear p0 p1 lp; have B6 := Lib.hid (by first | with_reducible exact below_nx B5.out hb | with_reducible exact below_nx (B5.out.alloc B5.out.size _) hb); have P6 := Lib.hid (by first | with_reducible exact P5.out.keep hb | with_reducible exact (P5.out.alloc _).keep hb); have X6 := Lib.hid ((Atm.new w5 xb xt 27).keep hb); clear hb; have lp := P6.out.lt; obtain ⟨p0, p1⟩ := P6.out; have lx := X6.out.lt; obtain ⟨x0, x1⟩ := X6.out) | (go_at_call 21; (with_reducible refine (HAs.out _).mono ?_); rintro e w7 ⟨rfl, hb⟩; clear p0 p1 lp x0 x1 lx; have B7 := Lib.hid (by first | with_reducible exact below_nx B6.out hb | with_reducible exact below_nx (B6.out.alloc B6.out.size _) hb); have P7 := Lib.hid (by first | with_reducible exact P6.out.keep hb | with_reducible exact (P6.out.alloc _).keep hb); have X7 := Lib.hid (by first | with_reducible exact X6.out.keep hb | with_reducible exact (X6.out.alloc _).keep hb); clear hb; have lp := P7.out.lt; obtain ⟨p0, p1⟩ := P7.out; have lx := X7.out.lt; obtain ⟨x0, x1⟩ := X7.out))
    go_cut [92] (fun s92 wx => s92 = .bool false ∧ Atm wx w2.heap.size 0 ⟨#[]⟩ ∧ Atm wx w5.heap.size xb xt ∧ Below w.heap.size w wx)
    case first =>
      go_region_held3 (fun w' => w'.cell? ⟨w5.heap.size, 0, none⟩ = some (.int .i64 xb) ∧ w'.cell? ⟨w5.heap.size, 1, none⟩ = some (.string xt)) (first | with_reducible exact X9.out.both | with_reducible exact X8.out.both | with_reducible exact X7.out.drew.both) (first
        | (go_at_call 18; have hx := TS; (with_reducible refine (HXi.out _).mono ?_); rintro e w9 ⟨rfl, hb⟩; have X9 := Lib.hid (X8.out.keep hb); have P9 := Lib.hid (P8.out.keep hb); have B9 := Lib.hid (below_nx B8.out hb); clear hx hb)
        | (go_at_call 22; have hx := TI; (with_reducible refine (HXs.out _).mono ?_); rintro e w9 ⟨rfl, hb⟩; have X9 := Lib.hid (X8.out.keep hb); have P9 := Lib.hid (P8.out.keep hb); have B9 := Lib.hid (below_nx B8.out hb); clear hx hb)
        | (go_at_call 18; (with_reducible refine (HXi.out _).mono ?_); rintro e w8 ⟨rfl, hb⟩; have TI := Lib.hid trivial; have X8 := Lib.hid (X7.out.drew.keep hb); have P8 := Lib.hid (P7.out.drew.keep hb); have B8 := Lib.hid (below_nx (below_drew1 B7.out) hb); clear hb)
        | (go_at_call 22; (with_reducible refine (HXs.out _).mono ?_); rintro e w8 ⟨rfl, hb⟩; have TS := Lib.hid trivial; have X8 := Lib.hid (X7.out.drew.keep hb); have P8 := Lib.hid (P7.out.drew.keep hb); have B8 := Lib.hid (below_nx (below_drew1 B7.out) hb); clear hb))
      all_goals go_wp2_with fail
      all_goals go_meet
      all_goals (case rel => exact ⟨rfl, P9.out, X9.out, B9.out⟩)
    obtain ⟨rfl, hp, hx, hb⟩ := hcut
    have P9 := Lib.hid hp; have X9 := Lib.hid hx; have B9 := Lib.hid hb
    have lp := hp.lt; have lx := hx.lt
    obtain ⟨p0, p1⟩ := hp; obtain ⟨x0, x1⟩ := hx
    clear hb P7 X7 B7
    cases hk : Pl.applyOk s xb xt
    · clear HAi HAs HXi HXs
      go_wp2
      go_ret
      exact ⟨rfl, B9.out⟩
    · skip
      obtain ⟨q1, q2, q3, q4, q5, q6⟩ := Pl.apply_told hk
      have hz1 := Pl.applyOut_size s xb xt
      have hz2 := Pl.leastTextOut_size s (Pl.applyOut s xb xt)
      have hz3 := Pl.invTextOut_size s xb xt (by omega)
      have g1 := fun W => LeastEdit_any s (Pl.applyOut s xb xt) W (by omega) (by omega)
      have g2 := fun W => InvertEdit_any s xb xt W (by omega) (by omega)
      have g3 := fun W => ApplyEdit_any (Pl.applyOut s xb xt) (Pl.invBackOut s xb xt) (Pl.invTextOut s xb xt) W (by omega) hz3
      rw [q1] at g1
      rw [hk] at g2
      rw [q5, q6] at g3
      have HL2 := Lib.hid g1; have HI2 := Lib.hid g2; have HA2 := Lib.hid g3
      clear g1 g2 g3 q1 q5 q6 hk HAi HAs HXi HXs
      generalize Pl.leastBackOut s (Pl.applyOut s xb xt) = lb at *
      generalize Pl.leastTextOut s (Pl.applyOut s xb xt) = lt at *
      generalize Pl.invBackOut s xb xt = ib at *
      generalize Pl.invTextOut s xb xt = it at *
      generalize Pl.applyOut s xb xt = ap at *
      go_wp2_with (first | (go_at_call 16; (with_reducible refine (HL2.out _).mono ?_); rintro e w10 ⟨rfl, hb⟩; clear p0 p1 lp x0 x1 lx; have B10 := Lib.hid (by first | with_reducible exact below_nx B9.out hb | with_reducible exact below_nx (B9.out.alloc B9.out.size _) hb); have P10 := Lib.hid (by first | with_reducible exact P9.out.keep hb | with_reducible exact (P9.out.alloc _).keep hb); have X10 := Lib.hid (by first | with_reducible exact X9.out.keep hb | with_reducible exact (X9.out.alloc _).keep hb); clear hb; have lp := P10.out.lt; obtain ⟨p0, p1⟩ := P10.out; have lx := X10.out.lt; obtain ⟨x0, x1⟩ := X10.out) | (go_at_call 23; (with_reducible refine (HI2.out _).mono ?_); rintro e w11 ⟨rfl, hb⟩; clear p0 p1 lp x0 x1 lx; have B11 := Lib.hid (by first | with_reducible exact below_nx B10.out hb | with_reducible exact below_nx (B10.out.alloc B10.out.size _) hb); have P11 := Lib.hid (by first | with_reducible exact P10.out.keep hb | with_reducible exact (P10.out.alloc _).keep hb); have X11 := Lib.hid (by first | with_reducible exact X10.out.keep hb | with_reducible exact (X10.out.alloc _).keep hb); have L11 := Lib.hid ((Atm.new w10 lb lt 27).keep hb); clear hb; have lp := P11.out.lt; obtain ⟨p0, p1⟩ := P11.out; have lx := X11.out.lt; obtain ⟨x0, x1⟩ := X11.out; have ll := L11.out.lt; obtain ⟨l0, l1⟩ := L11.out) | (go_at_call 20; (with_reducible refine (HA2.out _).mono ?_); rintro e w12 ⟨rfl, hb⟩; clear p0 p1 lp x0 x1 lx l0 l1 ll; have B12 := Lib.hid (by first | with_reducible exact below_nx B11.out hb | with_reducible exact below_nx (B11.out.alloc B11.out.size _) hb); have P12 := Lib.hid (by first | with_reducible exact P11.out.keep hb | with_reducible exact (P11.out.alloc _).keep hb); have X12 := Lib.hid (by first | with_reducible exact X11.out.keep hb | with_reducible exact (X11.out.alloc _).keep hb); have L12 := Lib.hid (by first | with_reducible exact L11.out.keep hb | with_reducible exact (L11.out.alloc _).keep hb); clear hb; have lp := P12.out.lt; obtain ⟨p0, p1⟩ := P12.out; have lx := X12.out.lt; obtain ⟨x0, x1⟩ := X12.out; have ll := L12.out.lt; obtain ⟨l0, l1⟩ := L12.out))
      go_ret
      exact ⟨rfl, B12.out⟩

  · obtain ⟨E1, E2, E3⟩ := Pl.least_told K0
    have zt := Pl.leastTextOut_size a b
    have g3 := fun W => IsValidEdit_any (Pl.leastBackOut a b) (Pl.leastTextOut a b) W (by unfold maxLen; omega)
    have g4 := fun W => ApplyEdit_any a (Pl.leastBackOut a b) (Pl.leastTextOut a b) W ha' (by omega)
    have F1 := fun e => Pl.least_same K0 e
    have F2 := fun e => Pl.least_other K0 e
    rw [K0] at g1 g2
    rw [E1] at g3
    rw [E2, E3] at g4
    have HLe := Lib.hid g1; have HLs := Lib.hid g2; have HV := Lib.hid g3; have HZ := Lib.hid g4
    clear g1 g2 g3 g4 E1 E2 E3 K0 ha' hb' ha hb
    generalize Pl.leastBackOut a b = eb at *
    generalize Pl.leastTextOut a b = et at *
    by_cases hab : a = b
    · obtain ⟨rfl, rfl⟩ := F1 hab
      subst hab
      clear F1 F2 zt
      go_upto_region 9 with (first | (go_at_call 16; (with_reducible refine (HLe.out _).mono ?_); rintro e w2 ⟨rfl, hb⟩; have B2 := Lib.hid (by first | with_reducible exact below_nx B1.out hb | with_reducible exact below_nx (B1.out.alloc B1.out.size _) hb); clear hb) | (go_at_call 17; (with_reducible refine (HLs.out _).mono ?_); rintro e w3 ⟨rfl, hb⟩; have B3 := Lib.hid (by first | with_reducible exact below_nx B2.out hb | with_reducible exact below_nx (B2.out.alloc B2.out.size _) hb); have P3 := Lib.hid ((Atm.new w2 0 ⟨#[]⟩ 27).keep hb); clear hb; have lp := P3.out.lt; obtain ⟨p0, p1⟩ := P3.out) | (go_at_call 18; (with_reducible refine (HV.out _).mono ?_); rintro e w4 ⟨rfl, hb⟩; clear p0 p1 lp; have B4 := Lib.hid (by first | with_reducible exact below_nx B3.out hb | with_reducible exact below_nx (B3.out.alloc B3.out.size _) hb); have P4 := Lib.hid (by first | with_reducible exact P3.out.keep hb | with_reducible exact (P3.out.alloc _).keep hb); clear hb; have lp := P4.out.lt; obtain ⟨p0, p1⟩ := P4.out) | (go_at_call 19; (with_reducible refine (DrawApplyEdit_any _ _ (HC.out.keep B4.out)).mono ?_); rintro e w5 ⟨s, xb, xt, rfl, hs, hxb1, hxb2, hxt, hb⟩; clear p0 p1 lp; have B5 := Lib.hid (by first | with_reducible exact below_nx B4.out hb | with_reducible exact below_nx (B4.out.alloc B4.out.size _) hb); have P5 := Lib.hid (by first | with_reducible exact P4.out.keep hb | with_reducible exact (P4.out.alloc _).keep hb); clear hb; have lp := P5.out.lt; obtain ⟨p0, p1⟩ := P5.out))
      have zxt : xt.size ≤ 1048576 := by omega
      have HAi := Lib.hid (fun W => ApplyEdit_any s xb xt W (by omega) zxt)
      have HAs := Lib.hid (fun W => specApplyEdit_any s xb xt W (by omega) zxt)
      have HXi := Lib.hid (fun W => IsValidEdit_any xb xt W (by unfold maxLen; omega))
      have HXs := Lib.hid (fun W => specIsValidEdit_any xb xt W (by unfold maxLen; omega))
      clear HLe HLs HV HC
      go_upto_region 11 with (first | (go_at_call 20; (with_reducible refine (HAi.out _).mono ?_); rintro e w6 ⟨rfl, hb⟩; clear p0 p1 lp; have B6 := Lib.hid (by first | with_reducible exact below_nx B5.out hb | with_reducible exact below_nx (B5.out.alloc B5.out.size _) hb); have P6 := Lib.hid (by first | with_reducible exact P5.out.keep hb | with_reducible exact (P5.out.alloc _).keep hb); have X6 := Lib.hid ((Atm.new w5 xb xt 27).keep hb); clear hb; have lp := P6.out.lt; obtain ⟨p0, p1⟩ := P6.out; have lx := X6.out.lt; obtain ⟨x0, x1⟩ := X6.out) | (go_at_call 21; (with_reducible refine (HAs.out _).mono ?_); rintro e w7 ⟨rfl, hb⟩; clear p0 p1 lp x0 x1 lx; have B7 := Lib.hid (by first | with_reducible exact below_nx B6.out hb | with_reducible exact below_nx (B6.out.alloc B6.out.size _) hb); have P7 := Lib.hid (by first | with_reducible exact P6.out.keep hb | with_reducible exact (P6.out.alloc _).keep hb); have X7 := Lib.hid (by first | with_reducible exact X6.out.keep hb | with_reducible exact (X6.out.alloc _).keep hb); clear hb; have lp := P7.out.lt; obtain ⟨p0, p1⟩ := P7.out; have lx := X7.out.lt; obtain ⟨x0, x1⟩ := X7.out))
      go_cut [92] (fun s92 wx => s92 = .bool false ∧ Atm wx w2.heap.size 0 ⟨#[]⟩ ∧ Atm wx w5.heap.size xb xt ∧ Below w.heap.size w wx)
      case first =>
        go_region_held3 (fun w' => w'.cell? ⟨w5.heap.size, 0, none⟩ = some (.int .i64 xb) ∧ w'.cell? ⟨w5.heap.size, 1, none⟩ = some (.string xt)) (first | with_reducible exact X9.out.both | with_reducible exact X8.out.both | with_reducible exact X7.out.drew.both) (first
          | (go_at_call 18; have hx := TS; (with_reducible refine (HXi.out _).mono ?_); rintro e w9 ⟨rfl, hb⟩; have X9 := Lib.hid (X8.out.keep hb); have P9 := Lib.hid (P8.out.keep hb); have B9 := Lib.hid (below_nx B8.out hb); clear hx hb)
          | (go_at_call 22; have hx := TI; (with_reducible refine (HXs.out _).mono ?_); rintro e w9 ⟨rfl, hb⟩; have X9 := Lib.hid (X8.out.keep hb); have P9 := Lib.hid (P8.out.keep hb); have B9 := Lib.hid (below_nx B8.out hb); clear hx hb)
          | (go_at_call 18; (with_reducible refine (HXi.out _).mono ?_); rintro e w8 ⟨rfl, hb⟩; have TI := Lib.hid trivial; have X8 := Lib.hid (X7.out.drew.keep hb); have P8 := Lib.hid (P7.out.drew.keep hb); have B8 := Lib.hid (below_nx (below_drew1 B7.out) hb); clear hb)
          | (go_at_call 22; (with_reducible refine (HXs.out _).mono ?_); rintro e w8 ⟨rfl, hb⟩; have TS := Lib.hid trivial; have X8 := Lib.hid (X7.out.drew.keep hb); have P8 := Lib.hid (P7.out.drew.keep hb); have B8 := Lib.hid (below_nx (below_drew1 B7.out) hb); clear hb))
        all_goals go_wp2_with fail
        all_goals go_meet
        all_goals (case rel => exact ⟨rfl, P9.out, X9.out, B9.out⟩)
      obtain ⟨rfl, hp, hx, hb⟩ := hcut
      have P9 := Lib.hid hp; have X9 := Lib.hid hx; have B9 := Lib.hid hb
      have lp := hp.lt; have lx := hx.lt
      obtain ⟨p0, p1⟩ := hp; obtain ⟨x0, x1⟩ := hx
      clear hb P7 X7 B7
      cases hk : Pl.applyOk s xb xt
      · clear HAi HAs HXi HXs
        go_wp2_with (first | (go_at_call 20; (with_reducible refine (HZ.out _).mono ?_); rintro e w10 ⟨rfl, hb⟩; clear p0 p1 lp x0 x1 lx; have B10 := Lib.hid (by first | with_reducible exact below_nx B9.out hb | with_reducible exact below_nx (B9.out.alloc B9.out.size _) hb); have P10 := Lib.hid (by first | with_reducible exact P9.out.keep hb | with_reducible exact (P9.out.alloc _).keep hb); clear hb; have lp := P10.out.lt; obtain ⟨p0, p1⟩ := P10.out))
        go_ret
        exact ⟨rfl, B10.out⟩
      · skip
        obtain ⟨q1, q2, q3, q4, q5, q6⟩ := Pl.apply_told hk
        have hz1 := Pl.applyOut_size s xb xt
        have hz2 := Pl.leastTextOut_size s (Pl.applyOut s xb xt)
        have hz3 := Pl.invTextOut_size s xb xt (by omega)
        have g1 := fun W => LeastEdit_any s (Pl.applyOut s xb xt) W (by omega) (by omega)
        have g2 := fun W => InvertEdit_any s xb xt W (by omega) (by omega)
        have g3 := fun W => ApplyEdit_any (Pl.applyOut s xb xt) (Pl.invBackOut s xb xt) (Pl.invTextOut s xb xt) W (by omega) hz3
        rw [q1] at g1
        rw [hk] at g2
        rw [q5, q6] at g3
        have HL2 := Lib.hid g1; have HI2 := Lib.hid g2; have HA2 := Lib.hid g3
        clear g1 g2 g3 q1 q5 q6 hk HAi HAs HXi HXs
        generalize Pl.leastBackOut s (Pl.applyOut s xb xt) = lb at *
        generalize Pl.leastTextOut s (Pl.applyOut s xb xt) = lt at *
        generalize Pl.invBackOut s xb xt = ib at *
        generalize Pl.invTextOut s xb xt = it at *
        generalize Pl.applyOut s xb xt = ap at *
        go_wp2_with (first | (go_at_call 16; (with_reducible refine (HL2.out _).mono ?_); rintro e w10 ⟨rfl, hb⟩; clear p0 p1 lp x0 x1 lx; have B10 := Lib.hid (by first | with_reducible exact below_nx B9.out hb | with_reducible exact below_nx (B9.out.alloc B9.out.size _) hb); have P10 := Lib.hid (by first | with_reducible exact P9.out.keep hb | with_reducible exact (P9.out.alloc _).keep hb); have X10 := Lib.hid (by first | with_reducible exact X9.out.keep hb | with_reducible exact (X9.out.alloc _).keep hb); clear hb; have lp := P10.out.lt; obtain ⟨p0, p1⟩ := P10.out; have lx := X10.out.lt; obtain ⟨x0, x1⟩ := X10.out) | (go_at_call 23; (with_reducible refine (HI2.out _).mono ?_); rintro e w11 ⟨rfl, hb⟩; clear p0 p1 lp x0 x1 lx; have B11 := Lib.hid (by first | with_reducible exact below_nx B10.out hb | with_reducible exact below_nx (B10.out.alloc B10.out.size _) hb); have P11 := Lib.hid (by first | with_reducible exact P10.out.keep hb | with_reducible exact (P10.out.alloc _).keep hb); have X11 := Lib.hid (by first | with_reducible exact X10.out.keep hb | with_reducible exact (X10.out.alloc _).keep hb); have L11 := Lib.hid ((Atm.new w10 lb lt 27).keep hb); clear hb; have lp := P11.out.lt; obtain ⟨p0, p1⟩ := P11.out; have lx := X11.out.lt; obtain ⟨x0, x1⟩ := X11.out; have ll := L11.out.lt; obtain ⟨l0, l1⟩ := L11.out) | (go_at_call 20; (with_reducible refine (HA2.out _).mono ?_); rintro e w12 ⟨rfl, hb⟩; clear p0 p1 lp x0 x1 lx l0 l1 ll; have B12 := Lib.hid (by first | with_reducible exact below_nx B11.out hb | with_reducible exact below_nx (B11.out.alloc B11.out.size _) hb); have P12 := Lib.hid (by first | with_reducible exact P11.out.keep hb | with_reducible exact (P11.out.alloc _).keep hb); have X12 := Lib.hid (by first | with_reducible exact X11.out.keep hb | with_reducible exact (X11.out.alloc _).keep hb); have L12 := Lib.hid (by first | with_reducible exact L11.out.keep hb | with_reducible exact (L11.out.alloc _).keep hb); clear hb; have lp := P12.out.lt; obtain ⟨p0, p1⟩ := P12.out; have lx := X12.out.lt; obtain ⟨x0, x1⟩ := X12.out; have ll := L12.out.lt; obtain ⟨l0, l1⟩ := L12.out) | (go_at_call 20; (with_reducible refine (HZ.out _).mono ?_); rintro e w13 ⟨rfl, hb⟩; clear p0 p1 lp x0 x1 lx l0 l1 ll; have B13 := Lib.hid (by first | with_reducible exact below_nx B12.out hb | with_reducible exact below_nx (B12.out.alloc B12.out.size _) hb); have P13 := Lib.hid (by first | with_reducible exact P12.out.keep hb | with_reducible exact (P12.out.alloc _).keep hb); clear hb; have lp := P13.out.lt; obtain ⟨p0, p1⟩ := P13.out))
        go_ret
        exact ⟨rfl, B13.out⟩

    · have F3 := Lib.hid (F2 hab)
      have HN := Lib.hid (ne_list hab)
      clear F1 F2 hab
      go_upto_region 9 with (first | (go_at_call 16; (with_reducible refine (HLe.out _).mono ?_); rintro e w2 ⟨rfl, hb⟩; have B2 := Lib.hid (by first | with_reducible exact below_nx B1.out hb | with_reducible exact below_nx (B1.out.alloc B1.out.size _) hb); clear hb) | (go_at_call 17; (with_reducible refine (HLs.out _).mono ?_); rintro e w3 ⟨rfl, hb⟩; have B3 := Lib.hid (by first | with_reducible exact below_nx B2.out hb | with_reducible exact below_nx (B2.out.alloc B2.out.size _) hb); have P3 := Lib.hid ((Atm.new w2 eb et 27).keep hb); clear hb; have lp := P3.out.lt; obtain ⟨p0, p1⟩ := P3.out) | (go_at_call 18; (with_reducible refine (HV.out _).mono ?_); rintro e w4 ⟨rfl, hb⟩; clear p0 p1 lp; have B4 := Lib.hid (by first | with_reducible exact below_nx B3.out hb | with_reducible exact below_nx (B3.out.alloc B3.out.size _) hb); have P4 := Lib.hid (by first | with_reducible exact P3.out.keep hb | with_reducible exact (P3.out.alloc _).keep hb); clear hb; have lp := P4.out.lt; obtain ⟨p0, p1⟩ := P4.out) | (go_at_call 19; (with_reducible refine (DrawApplyEdit_any _ _ (HC.out.keep B4.out)).mono ?_); rintro e w5 ⟨s, xb, xt, rfl, hs, hxb1, hxb2, hxt, hb⟩; clear p0 p1 lp; have B5 := Lib.hid (by first | with_reducible exact below_nx B4.out hb | with_reducible exact below_nx (B4.out.alloc B4.out.size _) hb); have P5 := Lib.hid (by first | with_reducible exact P4.out.keep hb | with_reducible exact (P4.out.alloc _).keep hb); clear hb; have lp := P5.out.lt; obtain ⟨p0, p1⟩ := P5.out))
      have zxt : xt.size ≤ 1048576 := by omega
      have HAi := Lib.hid (fun W => ApplyEdit_any s xb xt W (by omega) zxt)
      have HAs := Lib.hid (fun W => specApplyEdit_any s xb xt W (by omega) zxt)
      have HXi := Lib.hid (fun W => IsValidEdit_any xb xt W (by unfold maxLen; omega))
      have HXs := Lib.hid (fun W => specIsValidEdit_any xb xt W (by unfold maxLen; omega))
      clear HLe HLs HV HC
      go_upto_region 11 with (first | (go_at_call 20; (with_reducible refine (HAi.out _).mono ?_); rintro e w6 ⟨rfl, hb⟩; clear p0 p1 lp; have B6 := Lib.hid (by first | with_reducible exact below_nx B5.out hb | with_reducible exact below_nx (B5.out.alloc B5.out.size _) hb); have P6 := Lib.hid (by first | with_reducible exact P5.out.keep hb | with_reducible exact (P5.out.alloc _).keep hb); have X6 := Lib.hid ((Atm.new w5 xb xt 27).keep hb); clear hb; have lp := P6.out.lt; obtain ⟨p0, p1⟩ := P6.out; have lx := X6.out.lt; obtain ⟨x0, x1⟩ := X6.out) | (go_at_call 21; (with_reducible refine (HAs.out _).mono ?_); rintro e w7 ⟨rfl, hb⟩; clear p0 p1 lp x0 x1 lx; have B7 := Lib.hid (by first | with_reducible exact below_nx B6.out hb | with_reducible exact below_nx (B6.out.alloc B6.out.size _) hb); have P7 := Lib.hid (by first | with_reducible exact P6.out.keep hb | with_reducible exact (P6.out.alloc _).keep hb); have X7 := Lib.hid (by first | with_reducible exact X6.out.keep hb | with_reducible exact (X6.out.alloc _).keep hb); clear hb; have lp := P7.out.lt; obtain ⟨p0, p1⟩ := P7.out; have lx := X7.out.lt; obtain ⟨x0, x1⟩ := X7.out))
      go_cut [92] (fun s92 wx => s92 = .bool false ∧ Atm wx w2.heap.size eb et ∧ Atm wx w5.heap.size xb xt ∧ Below w.heap.size w wx)
      case first =>
        go_region_held3 (fun w' => w'.cell? ⟨w5.heap.size, 0, none⟩ = some (.int .i64 xb) ∧ w'.cell? ⟨w5.heap.size, 1, none⟩ = some (.string xt)) (first | with_reducible exact X9.out.both | with_reducible exact X8.out.both | with_reducible exact X7.out.drew.both) (first
          | (go_at_call 18; have hx := TS; (with_reducible refine (HXi.out _).mono ?_); rintro e w9 ⟨rfl, hb⟩; have X9 := Lib.hid (X8.out.keep hb); have P9 := Lib.hid (P8.out.keep hb); have B9 := Lib.hid (below_nx B8.out hb); clear hx hb)
          | (go_at_call 22; have hx := TI; (with_reducible refine (HXs.out _).mono ?_); rintro e w9 ⟨rfl, hb⟩; have X9 := Lib.hid (X8.out.keep hb); have P9 := Lib.hid (P8.out.keep hb); have B9 := Lib.hid (below_nx B8.out hb); clear hx hb)
          | (go_at_call 18; (with_reducible refine (HXi.out _).mono ?_); rintro e w8 ⟨rfl, hb⟩; have TI := Lib.hid trivial; have X8 := Lib.hid (X7.out.drew.keep hb); have P8 := Lib.hid (P7.out.drew.keep hb); have B8 := Lib.hid (below_nx (below_drew1 B7.out) hb); clear hb)
          | (go_at_call 22; (with_reducible refine (HXs.out _).mono ?_); rintro e w8 ⟨rfl, hb⟩; have TS := Lib.hid trivial; have X8 := Lib.hid (X7.out.drew.keep hb); have P8 := Lib.hid (P7.out.drew.keep hb); have B8 := Lib.hid (below_nx (below_drew1 B7.out) hb); clear hb))
        all_goals go_wp2_with fail
        all_goals go_meet
        all_goals (case rel => exact ⟨rfl, P9.out, X9.out, B9.out⟩)
      obtain ⟨rfl, hp, hx, hb⟩ := hcut
      have P9 := Lib.hid hp; have X9 := Lib.hid hx; have B9 := Lib.hid hb
      have lp := hp.lt; have lx := hx.lt
      obtain ⟨p0, p1⟩ := hp; obtain ⟨x0, x1⟩ := hx
      clear hb P7 X7 B7
      cases hk : Pl.applyOk s xb xt
      · clear HAi HAs HXi HXs
        go_wp2_with (first | (go_at_call 20; (with_reducible refine (HZ.out _).mono ?_); rintro e w10 ⟨rfl, hb⟩; clear p0 p1 lp x0 x1 lx; have B10 := Lib.hid (by first | with_reducible exact below_nx B9.out hb | with_reducible exact below_nx (B9.out.alloc B9.out.size _) hb); have P10 := Lib.hid (by first | with_reducible exact P9.out.keep hb | with_reducible exact (P9.out.alloc _).keep hb); clear hb; have lp := P10.out.lt; obtain ⟨p0, p1⟩ := P10.out))
        all_goals go_ret
        all_goals first | exact ⟨rfl, B10.out⟩ | exact ⟨ret_bool HN.out, B10.out⟩ | exact absurd ⟨by assumption, nil_list (by assumption)⟩ F3.out
      · skip
        obtain ⟨q1, q2, q3, q4, q5, q6⟩ := Pl.apply_told hk
        have hz1 := Pl.applyOut_size s xb xt
        have hz2 := Pl.leastTextOut_size s (Pl.applyOut s xb xt)
        have hz3 := Pl.invTextOut_size s xb xt (by omega)
        have g1 := fun W => LeastEdit_any s (Pl.applyOut s xb xt) W (by omega) (by omega)
        have g2 := fun W => InvertEdit_any s xb xt W (by omega) (by omega)
        have g3 := fun W => ApplyEdit_any (Pl.applyOut s xb xt) (Pl.invBackOut s xb xt) (Pl.invTextOut s xb xt) W (by omega) hz3
        rw [q1] at g1
        rw [hk] at g2
        rw [q5, q6] at g3
        have HL2 := Lib.hid g1; have HI2 := Lib.hid g2; have HA2 := Lib.hid g3
        clear g1 g2 g3 q1 q5 q6 hk HAi HAs HXi HXs
        generalize Pl.leastBackOut s (Pl.applyOut s xb xt) = lb at *
        generalize Pl.leastTextOut s (Pl.applyOut s xb xt) = lt at *
        generalize Pl.invBackOut s xb xt = ib at *
        generalize Pl.invTextOut s xb xt = it at *
        generalize Pl.applyOut s xb xt = ap at *
        go_wp2_with (first | (go_at_call 16; (with_reducible refine (HL2.out _).mono ?_); rintro e w10 ⟨rfl, hb⟩; clear p0 p1 lp x0 x1 lx; have B10 := Lib.hid (by first | with_reducible exact below_nx B9.out hb | with_reducible exact below_nx (B9.out.alloc B9.out.size _) hb); have P10 := Lib.hid (by first | with_reducible exact P9.out.keep hb | with_reducible exact (P9.out.alloc _).keep hb); have X10 := Lib.hid (by first | with_reducible exact X9.out.keep hb | with_reducible exact (X9.out.alloc _).keep hb); clear hb; have lp := P10.out.lt; obtain ⟨p0, p1⟩ := P10.out; have lx := X10.out.lt; obtain ⟨x0, x1⟩ := X10.out) | (go_at_call 23; (with_reducible refine (HI2.out _).mono ?_); rintro e w11 ⟨rfl, hb⟩; clear p0 p1 lp x0 x1 lx; have B11 := Lib.hid (by first | with_reducible exact below_nx B10.out hb | with_reducible exact below_nx (B10.out.alloc B10.out.size _) hb); have P11 := Lib.hid (by first | with_reducible exact P10.out.keep hb | with_reducible exact (P10.out.alloc _).keep hb); have X11 := Lib.hid (by first | with_reducible exact X10.out.keep hb | with_reducible exact (X10.out.alloc _).keep hb); have L11 := Lib.hid ((Atm.new w10 lb lt 27).keep hb); clear hb; have lp := P11.out.lt; obtain ⟨p0, p1⟩ := P11.out; have lx := X11.out.lt; obtain ⟨x0, x1⟩ := X11.out; have ll := L11.out.lt; obtain ⟨l0, l1⟩ := L11.out) | (go_at_call 20; (with_reducible refine (HA2.out _).mono ?_); rintro e w12 ⟨rfl, hb⟩; clear p0 p1 lp x0 x1 lx l0 l1 ll; have B12 := Lib.hid (by first | with_reducible exact below_nx B11.out hb | with_reducible exact below_nx (B11.out.alloc B11.out.size _) hb); have P12 := Lib.hid (by first | with_reducible exact P11.out.keep hb | with_reducible exact (P11.out.alloc _).keep hb); have X12 := Lib.hid (by first | with_reducible exact X11.out.keep hb | with_reducible exact (X11.out.alloc _).keep hb); have L12 := Lib.hid (by first | with_reducible exact L11.out.keep hb | with_reducible exact (L11.out.alloc _).keep hb); clear hb; have lp := P12.out.lt; obtain ⟨p0, p1⟩ := P12.out; have lx := X12.out.lt; obtain ⟨x0, x1⟩ := X12.out; have ll := L12.out.lt; obtain ⟨l0, l1⟩ := L12.out) | (go_at_call 20; (with_reducible refine (HZ.out _).mono ?_); rintro e w13 ⟨rfl, hb⟩; clear p0 p1 lp x0 x1 lx l0 l1 ll; have B13 := Lib.hid (by first | with_reducible exact below_nx B12.out hb | with_reducible exact below_nx (B12.out.alloc B12.out.size _) hb); have P13 := Lib.hid (by first | with_reducible exact P12.out.keep hb | with_reducible exact (P12.out.alloc _).keep hb); clear hb; have lp := P13.out.lt; obtain ⟨p0, p1⟩ := P13.out))
        all_goals go_ret
        all_goals first | exact ⟨rfl, B13.out⟩ | exact ⟨ret_bool HN.out, B13.out⟩ | exact absurd ⟨by assumption, nil_list (by assumption)⟩ F3.out


namespace fnEdits
open Go.ChangeShapes Go.WideShapes Go.ChangeAt Go.RowKit
open Go.ChangeMaps (open_string shut_string)
set_option linter.unusedVariables false
theorem own : ownKnob Try.prog.godebug = none := by kernel_rfl
theorem laidOut : laidOutB Try.prog = true := by kernel_rfl
set_option maxRecDepth 100000 in
theorem lifted (os : Os) (started : os.Started) (H : Type) (enc : TypeId × Value → H) :
    ReturnsInHanded {} Try.checked os 3 .any (Rows.fnEditsSpec.pre6 enc Try.prog Try.f3 Rows.fnEditsRow.domain false) (Rows.fnEditsSpec.post enc Try.prog Try.f3 false true false false) := by
  refine returnsInHanded_of_change (C := Try.checked) own started (by kernel_rfl) Try.func3
    (ChangeSpec.witness6 (enc := enc) (C := Try.checked) false ⟨#[], #[.slice none 0 0], []⟩ 8 (by kernel_rfl) (by kernel_rfl) (by kernel_rfl) (by kernel_rfl)) ?_
  intro W base args ds gs before hval0 hW hcnd _
  have hval : ∀ (j : Nat) t v, Try.f3.params[j]? = some t → args[j]? = some v → Value.okWide Try.prog W .any base t v := hval0
  have hW' := hW
  obtain ⟨p, q, hA0, hV, rfl, hfz, hnd⟩ := hW
  have hA : DataW.TrodAll enc Try.prog W 0 (fun _ => true) true Try.f3.params.toList args.toList ds p := hA0
  rw [Try.params3] at hA hval
  obtain ⟨v0, vs0, d0, ds0, p0, q0, hargs, rfl, rfl, h0, r0⟩ := trodAll_cons hA
  obtain ⟨rfl, rfl, rfl⟩ := trodAll_nil r0
  obtain rfl : args = #[v0] := by cases args; simp_all
  obtain ⟨rfl, rfl⟩ := trodVars_none hV
  have k0 := h0
  have lt0 : ∀ x ∈ p0, x.block < W.heap.size := by obtain ⟨m, hm⟩ := k0; exact DataW.trod_lt m _ _ _ hm
  obtain ⟨a0, w0⟩ := (fun W v hv h => open_bytesR (w := W) (v := v) Try.underlying22 Try.underlying5 (by kernel_rfl) hv h) W v0 (hval 0 22 v0 rfl rfl) h0
  clear hA0 hval0
  refine (FnEdits_walk v0 a0 W w0).mono fun e W' ⟨he, bel⟩ => ?_
  subst he
  exact ⟨_, rfl, _, _, _, [], _, [], hW', trodAll_mk1 (shut_bool Try.underlying4 _), (trodAll_cons_mk (Below.trod laidOut (by kernel_rfl) (of_decide_eq_true (by kernel_rfl)) k0 bel lt0) trodAll_mk0), rfl, bel.frame _, fun h => by cases h⟩
theorem over : Rows.fnEditsRow.holds Try.pinned (OpenSpec.ofChange Rows.fnEditsSpec) :=
  OpenClaim.holds_of_wide 3 Try.f3 rfl rfl rfl rfl rfl rfl rfl ⟨rfl, rfl, rfl, rfl, rfl⟩ rfl rfl rfl rfl rfl (by kernel_rfl) Try.func3 (by kernel_rfl)
    (of_decide_eq_true (by kernel_rfl)) (by unfold Func.isWrapper; first | (rw [if_pos (by decide +kernel)]; kernel_rfl) | (rw [if_neg (by decide +kernel)]; exact ⟨rfl, rfl⟩))
    (fun os started H enc _ => lifted os started H enc)
theorem proved : Rows.FnEditsSaid := over
#print axioms proved
end fnEdits

end Go.Proofs.Ytfakaeddkhajbaa
