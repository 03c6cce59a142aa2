/-
  THE CLAIM: the law FnFormat returns true for every code, and its argument reads afterwards as before. Conditions: none beyond the given statement's own.
-/
import Derived.Test.YtfakaeddkhajbaaDrawAt
import Derived.Test.YtfakaeddkhajbaaOpenB
import Derived.Deep.DeepCutAuto
import Derived.ProofKit
import Derived.OpenShut
import Derived.ShutString
import Derived.ChangeOld
import Derived.Below
import Derived.WalkSmall
import Derived.Test.YtfakaeddkhajbaaOpen
namespace Go.Proofs.Ytfakaeddkhajbaa
open Go.RowKit

theorem Rows.alloc {w : World} {v : Value} {n size : Nat} {xs : List Value} (h : Rows w v n size xs) (o : Obj) : Rows (w.alloc o) v n size xs := h.keep ((Below.refl _ _).alloc (Nat.le_refl _) o)
theorem code_drew {w : World} {v : Value} (h : Code8 w v) : Code8 w.drew v := h
theorem rows_drew {w : World} {v : Value} {n size : Nat} {xs : List Value} (h : Rows w v n size xs) : Rows w.drew v n size xs := h
/-- three states in memory -/
def St3 (w : World) (b1 b2 b3 : Nat) (s r : Pl.Sta) : Prop := St w b1 s ∧ St w b2 r ∧ St w b3 r
theorem St3.keep {w w' : World} {b1 b2 b3 : Nat} {s r : Pl.Sta} (h : St3 w b1 b2 b3 s r) (hb : Below w.heap.size w w') : St3 w' b1 b2 b3 s r := ⟨h.1.keep hb, h.2.1.keep hb, h.2.2.keep hb⟩
theorem St3.drew {w : World} {b1 b2 b3 : Nat} {s r : Pl.Sta} (h : St3 w b1 b2 b3 s r) : St3 w.drew b1 b2 b3 s r := h
theorem St3.cells {w' : World} {b1 b2 b3 : Nat} {t : ByteArray} {j g : Bool} {c k : Int} {rt : ByteArray} {rj rg : Bool} {rc rk : Int} (h : St3 w' b1 b2 b3 ⟨t, j, g, c, k⟩ ⟨rt, rj, rg, rc, rk⟩) :
    w'.cell? ⟨b1, 0, none⟩ = some (.string t) ∧ w'.cell? ⟨b1, 1, none⟩ = some (.bool j) ∧ w'.cell? ⟨b1, 2, none⟩ = some (.bool g) ∧ w'.cell? ⟨b1, 3, none⟩ = some (.int .i64 c) ∧ w'.cell? ⟨b1, 4, none⟩ = some (.int .i64 k) ∧ w'.cell? ⟨b2, 0, none⟩ = some (.string rt) ∧ w'.cell? ⟨b2, 1, none⟩ = some (.bool rj) ∧ w'.cell? ⟨b2, 2, none⟩ = some (.bool rg) ∧ w'.cell? ⟨b2, 3, none⟩ = some (.int .i64 rc) ∧ w'.cell? ⟨b2, 4, none⟩ = some (.int .i64 rk) ∧ w'.cell? ⟨b3, 0, none⟩ = some (.string rt) ∧ w'.cell? ⟨b3, 1, none⟩ = some (.bool rj) ∧ w'.cell? ⟨b3, 2, none⟩ = some (.bool rg) ∧ w'.cell? ⟨b3, 3, none⟩ = some (.int .i64 rc) ∧ w'.cell? ⟨b3, 4, none⟩ = some (.int .i64 rk) := by
  obtain ⟨⟨a0, a1, a2, a3, a4, _⟩, ⟨d0, d1, d2, d3, d4, _⟩, ⟨f0, f1, f2, f3, f4, _⟩⟩ := h
  exact ⟨a0, a1, a2, a3, a4, d0, d1, d2, d3, d4, f0, f1, f2, f3, f4⟩

theorem cells5 {w' : World} {b : Nat} {t : ByteArray} {j g : Bool} {c k : Int} (h : St w' b ⟨t, j, g, c, k⟩) :
    w'.cell? ⟨b, 0, none⟩ = some (.string t) ∧ w'.cell? ⟨b, 1, none⟩ = some (.bool j) ∧ w'.cell? ⟨b, 2, none⟩ = some (.bool g) ∧ w'.cell? ⟨b, 3, none⟩ = some (.int .i64 c) ∧ w'.cell? ⟨b, 4, none⟩ = some (.int .i64 k) := by
  obtain ⟨a0, a1, a2, a3, a4, _⟩ := h
  exact ⟨a0, a1, a2, a3, a4⟩

set_option maxRecDepth 20000 in
set_option maxHeartbeats 3200000 in
theorem FnFormat_walk (v : Value) (l : List Int) (w : World) (h : Rows w v l.length 1 (u8s l) ∧ allByte l) :
    Calls Try.prog 12 #[v] w fun e w' => e = .returned (.bool true) ∧ Below w.heap.size w w' := by
  have HCa : Code8 w v := ⟨l, h.2, h.1⟩
  obtain ⟨ar, cap, rfl, hcap, hmax, _, _, _⟩ := h.1
  unfold maxLen at hmax
  clear h
  by_cases hbig : 65536 < l.length
  · go_enter Try.func12, Try.ntmps12
    go_wp2_with ((go_at_call 14; go_in))
    go_ret
    exact ⟨rfl, (by repeat (first | with_reducible exact Below.refl _ _ | with_reducible assumption | with_reducible refine Below.alloc ?_ ?_ _ | with_reducible refine Below.setCell ?_ ?_ _ | with_reducible refine Below.drew ?_ | with_reducible refine below_drewN ?_ _ | with_reducible refine Below.trans ?_ (Below.mono (by assumption) ?_) | omega | ((repeat (first | rw [World.size_alloc] | rw [size_setCell] | rw [size_drewN] | rw [size_drew])); omega) | exact Nat.le_refl _ | (dsimp only; omega) | (simp [World.setCell]; omega)))⟩
  have HC0 := Lib.hid HCa
  go_enter Try.func12, Try.ntmps12
  go_upto_region 4 with (first | (go_at_call 14; go_in) | (go_at_call 61; refine (DrawApplyAtoms_any _ _ HC0.out).mono ?_; rintro e w1 ⟨t, j, g, c, k, lv, la, rfl, ht0, hown, hl, hsm, hb⟩; have HC1 := Lib.hid (HC0.out.keep hb); have HR1 := Lib.hid (Rows.of_own hown); have B1 := Lib.hid hb; clear hb hown))
  clear HCa hbig hmax hcap HC0
  have ht : t.size ≤ maxLen := by unfold maxLen; omega
  have HM := Lib.hid (fun p hp => Nat.le_trans (hsm p hp) (by unfold maxLen; omega) : ∀ p ∈ la, p.2.size ≤ maxLen)
  have HIa := Lib.hid (fun W h => ApplyAtoms_any t j g c k lv la W ht h HM.out)
  have HSa := Lib.hid (fun W h => specApplyAtoms_any t j g c k lv la W ht h HM.out)
  have HV1 := Lib.hid (fun W => IsValidState_any t j g c k W ht)
  have HV2 := Lib.hid (fun W => specIsValidState_any t j g c k W ht)
  obtain ⟨r, hr⟩ : ∃ r, Pl.apsOut ⟨t, j, g, c, k⟩ la = r := ⟨_, rfl⟩
  obtain ⟨ok, hok⟩ : ∃ ok, Pl.apsOk ⟨t, j, g, c, k⟩ la = ok := ⟨_, rfl⟩
  rw [hr, hok] at HIa HSa
  have RO := Lib.hid hr; have OKH := Lib.hid hok
  clear hr hok hsm
  obtain ⟨rt, rj, rg, rc, rk⟩ := r
  dsimp only at HIa HSa
  go_upto_region 6 with (first | (go_at_call 60; (with_reducible refine (HIa.out _ ((HR1.out.alloc _))).mono ?_); rintro e w2 ⟨rfl, hb⟩; have B2 := Lib.hid (by first | with_reducible exact below_nx B1.out hb | with_reducible exact below_nx (B1.out.alloc B1.out.size _) hb | with_reducible exact below_nx ((B1.out.alloc B1.out.size _).alloc (B1.out.alloc B1.out.size _).size _) hb); have HC2 := Lib.hid (by first | with_reducible exact HC1.out.keep hb | with_reducible exact (HC1.out.alloc _).keep hb | with_reducible exact ((HC1.out.alloc _).alloc _).keep hb); have HR2 := Lib.hid (by first | with_reducible exact HR1.out.keep hb | with_reducible exact (HR1.out.alloc _).keep hb | with_reducible exact ((HR1.out.alloc _).alloc _).keep hb); have A2 := Lib.hid ((St.new w1 t j g c k 59).keep hb); clear hb; have lta := A2.out.lt; obtain ⟨a0, a1, a2, a3, a4, _⟩ := A2.out; dsimp only at a0 a1 a2 a3 a4) | (go_at_call 59; (with_reducible refine (HSa.out _ ((HR2.out.alloc _))).mono ?_); rintro e w3 ⟨rfl, hb⟩; clear a0 a1 a2 a3 a4 lta; have B3 := Lib.hid (by first | with_reducible exact below_nx B2.out hb | with_reducible exact below_nx (B2.out.alloc B2.out.size _) hb | with_reducible exact below_nx ((B2.out.alloc B2.out.size _).alloc (B2.out.alloc B2.out.size _).size _) hb); have HC3 := Lib.hid (by first | with_reducible exact HC2.out.keep hb | with_reducible exact (HC2.out.alloc _).keep hb | with_reducible exact ((HC2.out.alloc _).alloc _).keep hb); have HR3 := Lib.hid (by first | with_reducible exact HR2.out.keep hb | with_reducible exact (HR2.out.alloc _).keep hb | with_reducible exact ((HR2.out.alloc _).alloc _).keep hb); have A3 := Lib.hid (by first | with_reducible exact A2.out.keep hb | with_reducible exact (A2.out.alloc _).keep hb | with_reducible exact ((A2.out.alloc _).alloc _).keep hb); have D3 := Lib.hid ((St.new w2 rt rj rg rc rk 59).keep hb); clear hb; have lta := A3.out.lt; obtain ⟨a0, a1, a2, a3, a4, _⟩ := A3.out; dsimp only at a0 a1 a2 a3 a4; have ltd := D3.out.lt; obtain ⟨d0, d1, d2, d3, d4, _⟩ := D3.out; dsimp only at d0 d1 d2 d3 d4))
  have K3 := Lib.hid (show St3 (w3.alloc (.cells #[.string rt, .bool rj, .bool rg, .int .i64 rc, .int .i64 rk] 59)) w1.heap.size w2.heap.size w3.heap.size ⟨t, j, g, c, k⟩ ⟨rt, rj, rg, rc, rk⟩ from ⟨A3.out.alloc _, D3.out.alloc _, St.new w3 rt rj rg rc rk _⟩)
  have HC4 := Lib.hid (HC3.out.alloc (.cells #[.string rt, .bool rj, .bool rg, .int .i64 rc, .int .i64 rk] 59))
  have HR4 := Lib.hid (HR3.out.alloc (.cells #[.string rt, .bool rj, .bool rg, .int .i64 rc, .int .i64 rk] 59))
  have B4 := Lib.hid (B3.out.alloc B3.out.size (.cells #[.string rt, .bool rj, .bool rg, .int .i64 rc, .int .i64 rk] 59))
  clear A3 D3 HC3 HR3 HC2 HR2 A2 HIa HSa a0 a1 a2 a3 a4 lta d0 d1 d2 d3 d4 ltd
  go_cut [53] (fun s53 wx => s53 = .bool false ∧ St wx w1.heap.size ⟨t, j, g, c, k⟩ ∧ St wx w2.heap.size ⟨rt, rj, rg, rc, rk⟩ ∧ Code8 wx (.slice ar l.length cap) ∧ Rows wx lv la.length 2 (folds la) ∧ Below w.heap.size w wx)
  case first =>
    go_region_held3 (fun w' => w'.cell? ⟨w1.heap.size, 0, none⟩ = some (.string t) ∧ w'.cell? ⟨w1.heap.size, 1, none⟩ = some (.bool j) ∧ w'.cell? ⟨w1.heap.size, 2, none⟩ = some (.bool g) ∧ w'.cell? ⟨w1.heap.size, 3, none⟩ = some (.int .i64 c) ∧ w'.cell? ⟨w1.heap.size, 4, none⟩ = some (.int .i64 k) ∧ w'.cell? ⟨w2.heap.size, 0, none⟩ = some (.string rt) ∧ w'.cell? ⟨w2.heap.size, 1, none⟩ = some (.bool rj) ∧ w'.cell? ⟨w2.heap.size, 2, none⟩ = some (.bool rg) ∧ w'.cell? ⟨w2.heap.size, 3, none⟩ = some (.int .i64 rc) ∧ w'.cell? ⟨w2.heap.size, 4, none⟩ = some (.int .i64 rk) ∧ w'.cell? ⟨w3.heap.size, 0, none⟩ = some (.string rt) ∧ w'.cell? ⟨w3.heap.size, 1, none⟩ = some (.bool rj) ∧ w'.cell? ⟨w3.heap.size, 2, none⟩ = some (.bool rg) ∧ w'.cell? ⟨w3.heap.size, 3, none⟩ = some (.int .i64 rc) ∧ w'.cell? ⟨w3.heap.size, 4, none⟩ = some (.int .i64 rk)) (first | with_reducible exact K9.out.cells | with_reducible exact K8.out.cells | with_reducible exact K3.out.drew.cells) (first
      | (go_at_call 62; have hx := TS; (with_reducible refine (HV1.out _).mono ?_); rintro e w9 ⟨rfl, hb⟩; have K9 := Lib.hid (K8.out.keep hb); have HC9 := Lib.hid (HC8.out.keep hb); have HR9 := Lib.hid (HR8.out.keep hb); have B9 := Lib.hid (below_nx B8.out hb); clear hx hb)
      | (go_at_call 63; have hx := TI; (with_reducible refine (HV2.out _).mono ?_); rintro e w9 ⟨rfl, hb⟩; have K9 := Lib.hid (K8.out.keep hb); have HC9 := Lib.hid (HC8.out.keep hb); have HR9 := Lib.hid (HR8.out.keep hb); have B9 := Lib.hid (below_nx B8.out hb); clear hx hb)
      | (go_at_call 62; (with_reducible refine (HV1.out _).mono ?_); rintro e w8 ⟨rfl, hb⟩; have TI := Lib.hid trivial; have K8 := Lib.hid (K3.out.drew.keep hb); have HC8 := Lib.hid ((code_drew HC4.out).keep hb); have HR8 := Lib.hid ((rows_drew HR4.out).keep hb); have B8 := Lib.hid (below_nx (below_drew1 B4.out) hb); clear hb)
      | (go_at_call 63; (with_reducible refine (HV2.out _).mono ?_); rintro e w8 ⟨rfl, hb⟩; have TS := Lib.hid trivial; have K8 := Lib.hid (K3.out.drew.keep hb); have HC8 := Lib.hid ((code_drew HC4.out).keep hb); have HR8 := Lib.hid ((rows_drew HR4.out).keep hb); have B8 := Lib.hid (below_nx (below_drew1 B4.out) hb); clear hb))
    all_goals go_wp2_with fail
    all_goals go_meet
    all_goals (case rel => exact ⟨rfl, K9.out.1, K9.out.2.1, HC9.out, HR9.out, B9.out⟩)
  obtain ⟨rfl, ha, hd, hc, hrr, hb⟩ := hcut
  have A5 := Lib.hid ha; have D5 := Lib.hid hd; have HC5 := Lib.hid hc; have HR5 := Lib.hid hrr; have B5 := Lib.hid hb
  clear ha hd hc hrr hb K3 HC4 HR4 B4 HV1 HV2
  go_upto_region 9 with (go_at_call 64; refine (DrawApplyAtom_any _ _ HC5.out).mono ?_; rintro e w6 ⟨xt, xj, xg, xc, xk, pa, px, rfl, hxt, hpx, hb⟩; have B6 := Lib.hid (below_nx B5.out hb); have A6 := Lib.hid (A5.out.keep hb); have D6 := Lib.hid (D5.out.keep hb); have HC6 := Lib.hid (HC5.out.keep hb); have HR6 := Lib.hid (HR5.out.keep hb); clear hb A5 D5 HC5 HR5)
  have hxt' : xt.size ≤ maxLen := by unfold maxLen; omega
  have hpx' : px.size ≤ maxLen := by unfold maxLen; omega
  have HIb := Lib.hid (fun W => ApplyAtom_any xt xj xg xc xk pa px W hxt' hpx')
  have HSb := Lib.hid (fun W => specApplyAtom_any xt xj xg xc xk pa px W hxt' hpx')
  generalize Pl.apOut ⟨xt, xj, xg, xc, xk⟩ pa px = y at HIb HSb
  generalize Pl.apOk ⟨xt, xj, xg, xc, xk⟩ pa px = yok at HIb HSb
  obtain ⟨yt, yj, yg, yc, yk⟩ := y
  dsimp only at HIb HSb
  go_upto_region 13 with (first | (go_at_call 49; (with_reducible refine (HIb.out _).mono ?_); rintro e w7 ⟨rfl, hb⟩; have B7 := Lib.hid (by first | with_reducible exact below_nx B6.out hb | with_reducible exact below_nx (B6.out.alloc B6.out.size _) hb | with_reducible exact below_nx ((B6.out.alloc B6.out.size _).alloc (B6.out.alloc B6.out.size _).size _) hb); have HC7 := Lib.hid (by first | with_reducible exact HC6.out.keep hb | with_reducible exact (HC6.out.alloc _).keep hb | with_reducible exact ((HC6.out.alloc _).alloc _).keep hb); have HR7 := Lib.hid (by first | with_reducible exact HR6.out.keep hb | with_reducible exact (HR6.out.alloc _).keep hb | with_reducible exact ((HR6.out.alloc _).alloc _).keep hb); have A7 := Lib.hid (by first | with_reducible exact A6.out.keep hb | with_reducible exact (A6.out.alloc _).keep hb | with_reducible exact ((A6.out.alloc _).alloc _).keep hb); have D7 := Lib.hid (by first | with_reducible exact D6.out.keep hb | with_reducible exact (D6.out.alloc _).keep hb | with_reducible exact ((D6.out.alloc _).alloc _).keep hb); have XX := Lib.hid (laid2 w6 xt xj xg xc xk pa px 59 63); have X7 := Lib.hid (XX.out.keep hb); clear XX; have ltx7 := X7.out.1.lt; have ltx7' := World.block_lt_of_cell? _ _ X7.out.2.1; obtain ⟨x0, x1, x2, x3, x4, x5, x6⟩ := X7.out.cells; clear hb) | (go_at_call 46; (with_reducible refine (HSb.out _).mono ?_); rintro e w8 ⟨rfl, hb⟩; have B8 := Lib.hid (by first | with_reducible exact below_nx B7.out hb | with_reducible exact below_nx (B7.out.alloc B7.out.size _) hb | with_reducible exact below_nx ((B7.out.alloc B7.out.size _).alloc (B7.out.alloc B7.out.size _).size _) hb); have HC8 := Lib.hid (by first | with_reducible exact HC7.out.keep hb | with_reducible exact (HC7.out.alloc _).keep hb | with_reducible exact ((HC7.out.alloc _).alloc _).keep hb); have HR8 := Lib.hid (by first | with_reducible exact HR7.out.keep hb | with_reducible exact (HR7.out.alloc _).keep hb | with_reducible exact ((HR7.out.alloc _).alloc _).keep hb); have A8 := Lib.hid (by first | with_reducible exact A7.out.keep hb | with_reducible exact (A7.out.alloc _).keep hb | with_reducible exact ((A7.out.alloc _).alloc _).keep hb); have D8 := Lib.hid (by first | with_reducible exact D7.out.keep hb | with_reducible exact (D7.out.alloc _).keep hb | with_reducible exact ((D7.out.alloc _).alloc _).keep hb); have Y8 := Lib.hid ((St.new w7 yt yj yg yc yk 59).keep hb); clear x0 x1 x2 x3 x4 x5 x6 ltx7 ltx7' X7; clear hb; have lty := Y8.out.lt; obtain ⟨y0, y1, y2, y3, y4, _⟩ := Y8.out; dsimp only at y0 y1 y2 y3 y4))
  clear HIb HSb hxt hpx hxt' hpx' ht0
  cases ok
  · have hnil := (Pl.aps_nilled OKH.out).symm.trans RO.out
    injection hnil with e0 e1 e2 e3 e4
    subst e0; subst e1; subst e2; subst e3; subst e4
    have ltd := D8.out.lt; have lta := A8.out.lt
    obtain ⟨d0, d1, d2, d3, d4, _⟩ := D8.out
    dsimp only at d0 d1 d2 d3 d4
    go_wp2_with fail
    go_ret
    exact ⟨rfl, B8.out.alloc B8.out.size _⟩
  by_cases hz : la.length = 0
  · obtain rfl : la = [] := List.length_eq_zero_iff.1 hz
    have hsame := (Pl.aps_empty OKH.out).symm.trans RO.out
    injection hsame with e0 e1 e2 e3 e4
    subst e0; subst e1; subst e2; subst e3; subst e4
    have ltd := D8.out.lt; have lta := A8.out.lt
    obtain ⟨d0, d1, d2, d3, d4, _⟩ := D8.out
    obtain ⟨a0, a1, a2, a3, a4, _⟩ := A8.out
    dsimp only at d0 d1 d2 d3 d4 a0 a1 a2 a3 a4
    obtain ⟨la0, lc0, rfl, _, _, _, _, _⟩ := HR8.out
    go_wp2_with fail
    go_ret
    exact ⟨rfl, B8.out.alloc B8.out.size _⟩
  obtain ⟨b, off, lcap, rfl, hlc, hlm⟩ := rows_slice HR8.out (by omega)
  clear y0 y1 y2 y3 y4 lty
  go_upto_region 16 with (go_at_call 65; refine (vAt_any _ _ (HC8.out.alloc _)).mono ?_; rintro e w9 ⟨x, rfl, hx, hb⟩; have B9 := Lib.hid (below_nx (B8.out.alloc B8.out.size _) hb); have A9 := Lib.hid ((A8.out.alloc _).keep hb); have D9 := Lib.hid ((D8.out.alloc _).keep hb); have HR9 := Lib.hid ((HR8.out.alloc _).keep hb); clear hb A8 D8 HC8 HR8 B8)
  have hz1 : 0 < la.length := by omega
  have hlc1 : ¬ lcap = 0 := by omega
  obtain ⟨m, hm, hml⟩ : ∃ m : Nat, (x : Int) % (la.length : Int) = (m : Int) ∧ m < la.length := ⟨x % la.length, (Int.natCast_emod x la.length).symm, Nat.mod_lt _ hz1⟩
  rw [hm]
  clear hm hz hx
  have hlc2 : ¬ lcap = m := by omega
  have hlc3 : m ≤ lcap := by omega
  have hlc4 : m ≤ la.length := by omega
  have RF := Lib.hid (rows_front HR9.out m hlc4); have RB := Lib.hid (rows_back HR9.out m hlc4)
  have lb : b < w9.heap.size := HR9.out.lt (fun h => by have h2 := folds_length la; rw [h] at h2; simp at h2; omega) b rfl
  obtain ⟨q, hq⟩ : ∃ q, Pl.apsOut ⟨t, j, g, c, k⟩ (la.take m) = q := ⟨_, rfl⟩
  obtain ⟨s1, s2, s3⟩ := Pl.aps_split OKH.out m
  have s4 := (Pl.sOk_told (Pl.apsOut_ok ⟨t, j, g, c, k⟩ (la.take m))).1
  have s5 := Pl.apsOut_ok ⟨t, j, g, c, k⟩ la
  rw [RO.out] at s5
  rw [hq] at s2 s3 s4
  obtain ⟨qt, qj, qg, qc, qk⟩ := q
  have s6 := (Pl.sOk_told s5).1
  dsimp only at s4 s6
  have HF := Lib.hid (fun W v h => ApplyAtoms_any t j g c k v (la.take m) W ht h (fun p hp => HM.out p (List.mem_of_mem_take hp)))
  have HG := Lib.hid (fun W v h => ApplyAtoms_any qt qj qg qc qk v (la.drop m) W (by unfold maxLen; omega) h (fun p hp => HM.out p (List.mem_of_mem_drop hp)))
  rw [hq, s1] at HF
  rw [s3, RO.out, s2] at HG
  dsimp only at HF HG
  have hrt : rt.size ≤ maxLen := by unfold maxLen; omega
  have HV := Lib.hid (fun W => IsValidState_any rt rj rg rc rk W hrt)
  rw [show Pl.validState rt rc rk = true from s5] at HV
  clear s1 s2 s3 s4 s5 s6 hq OKH RO HM HR9 ht hrt
  go_cut [16, 17] (fun s16 s17 wx => ∃ bq : Nat, s16 = .pointer (some ⟨bq, 0, none⟩) ∧ s17 = .bool true ∧ St wx bq ⟨qt, qj, qg, qc, qk⟩ ∧ St wx w2.heap.size ⟨rt, rj, rg, rc, rk⟩ ∧ Rows wx (.slice (some ⟨b, off + m * 2, none⟩) (la.length - m) (lcap - m)) (la.drop m).length 2 (folds (la.drop m)) ∧ Below w.heap.size w wx)
  case first =>
    have lA := A9.out.lt; have lD := D9.out.lt; have lB := B9.out.size
    go_region_held3 (fun w' => w'.cell? ⟨w1.heap.size, 0, none⟩ = some (.string t) ∧ w'.cell? ⟨w1.heap.size, 1, none⟩ = some (.bool j) ∧ w'.cell? ⟨w1.heap.size, 2, none⟩ = some (.bool g) ∧ w'.cell? ⟨w1.heap.size, 3, none⟩ = some (.int .i64 c) ∧ w'.cell? ⟨w1.heap.size, 4, none⟩ = some (.int .i64 k)) (first | with_reducible exact cells5 (A5.out.alloc _) | with_reducible exact cells5 A5.out | with_reducible exact cells5 (A5.out.grown (St.set Z5.out ⟨qt, qj, qg, qc, qk⟩).2 (by omega)) | with_reducible exact cells5 (A9.out.drew.alloc _) | with_reducible exact cells5 (A9.out.alloc _).drew | with_reducible exact cells5 A9.out.drew) (first
      | (go_at_call 60; (with_reducible refine (HF.out _ _ (by first | with_reducible exact rows_drew RF.out | with_reducible exact rows_drew (RF.out.alloc _) | with_reducible exact (rows_drew RF.out).alloc _)).mono ?_); rintro e p5 ⟨rfl, hb5⟩; have A5 := Lib.hid (by first | with_reducible exact A9.out.drew.keep hb5 | with_reducible exact (A9.out.alloc _).drew.keep hb5 | with_reducible exact (A9.out.drew.alloc _).keep hb5); have D5 := Lib.hid (by first | with_reducible exact D9.out.drew.keep hb5 | with_reducible exact (D9.out.alloc _).drew.keep hb5 | with_reducible exact (D9.out.drew.alloc _).keep hb5); have R5 := Lib.hid (by first | with_reducible exact (rows_drew RB.out).keep hb5 | with_reducible exact (rows_drew (RB.out.alloc _)).keep hb5 | with_reducible exact ((rows_drew RB.out).alloc _).keep hb5); have B5 := Lib.hid (by first | with_reducible exact below_nx (below_drew1 B9.out) hb5 | with_reducible exact below_nx (below_drew1 (B9.out.alloc B9.out.size _)) hb5 | with_reducible exact below_nx ((below_drew1 B9.out).alloc (below_drew1 B9.out).size _) hb5); have L5 := A5.out.lt; (try (with_reducible have Z5 := Lib.hid (newZ hb5))); (try (with_reducible have Z5 := Lib.hid (newZd hb5))); clear hb5; (try (obtain ⟨n0, n1, n2, n3, n4, nf⟩ := Z5.out; dsimp only at n0 n1 n2 n3 n4; unfold thawed at nf))))
    all_goals go_wp2_with fail
    all_goals go_meet
    all_goals (case rel => first | with_reducible exact ⟨_, rfl, rfl, St.new _ _ _ _ _ _ _, D5.out.alloc _, R5.out.alloc _, B5.out.alloc B5.out.size _⟩ | (have hs := St.set Z5.out ⟨qt, qj, qg, qc, qk⟩; with_reducible exact ⟨_, rfl, rfl, hs.1, D5.out.grown hs.2 (by omega), R5.out.grown hs.2 (.inr (by simp only [Value.ownBlock, ne_eq, Option.some.injEq]; omega)), below_into B5.out hs.2 (by omega)⟩))
  obtain ⟨bq, rfl, rfl, hq1, hd, hr, hb⟩ := hcut
  have Q10 := Lib.hid hq1; have D10 := Lib.hid hd; have RB10 := Lib.hid hr; have B10 := Lib.hid hb
  clear hq1 hd hr hb HF A9 D9 RF RB B9 lb
  go_upto_region 17 with fail
  go_cut [18, 19] (fun s18 s19 wx => ∃ bz : Nat, s18 = .pointer (some ⟨bz, 0, none⟩) ∧ s19 = .bool true ∧ St wx bz ⟨rt, rj, rg, rc, rk⟩ ∧ St wx w2.heap.size ⟨rt, rj, rg, rc, rk⟩ ∧ Below w.heap.size w wx)
  case first =>
    have lA := Q10.out.lt; have lD := D10.out.lt; have lB := B10.out.size
    go_region_held3 (fun w' => w'.cell? ⟨bq, 0, none⟩ = some (.string qt) ∧ w'.cell? ⟨bq, 1, none⟩ = some (.bool qj) ∧ w'.cell? ⟨bq, 2, none⟩ = some (.bool qg) ∧ w'.cell? ⟨bq, 3, none⟩ = some (.int .i64 qc) ∧ w'.cell? ⟨bq, 4, none⟩ = some (.int .i64 qk)) (first | with_reducible exact cells5 (A5.out.alloc _) | with_reducible exact cells5 A5.out | with_reducible exact cells5 (A5.out.grown (St.set Z5.out ⟨rt, rj, rg, rc, rk⟩).2 (by omega)) | with_reducible exact cells5 (Q10.out.drew.alloc _) | with_reducible exact cells5 (Q10.out.alloc _).drew | with_reducible exact cells5 Q10.out.drew) (first
      | (go_at_call 60; (with_reducible refine (HG.out _ _ (by first | with_reducible exact rows_drew RB10.out | with_reducible exact rows_drew (RB10.out.alloc _) | with_reducible exact (rows_drew RB10.out).alloc _)).mono ?_); rintro e p5 ⟨rfl, hb5⟩; have A5 := Lib.hid (by first | with_reducible exact Q10.out.drew.keep hb5 | with_reducible exact (Q10.out.alloc _).drew.keep hb5 | with_reducible exact (Q10.out.drew.alloc _).keep hb5); have D5 := Lib.hid (by first | with_reducible exact D10.out.drew.keep hb5 | with_reducible exact (D10.out.alloc _).drew.keep hb5 | with_reducible exact (D10.out.drew.alloc _).keep hb5); have B5 := Lib.hid (by first | with_reducible exact below_nx (below_drew1 B10.out) hb5 | with_reducible exact below_nx (below_drew1 (B10.out.alloc B10.out.size _)) hb5 | with_reducible exact below_nx ((below_drew1 B10.out).alloc (below_drew1 B10.out).size _) hb5); have L5 := A5.out.lt; (try (with_reducible have Z5 := Lib.hid (newZ hb5))); (try (with_reducible have Z5 := Lib.hid (newZd hb5))); clear hb5; (try (obtain ⟨n0, n1, n2, n3, n4, nf⟩ := Z5.out; dsimp only at n0 n1 n2 n3 n4; unfold thawed at nf))))
    all_goals go_wp2_with fail
    all_goals go_meet
    all_goals (case rel => first | with_reducible exact ⟨_, rfl, rfl, St.new _ _ _ _ _ _ _, D5.out.alloc _, B5.out.alloc B5.out.size _⟩ | (have hs := St.set Z5.out ⟨rt, rj, rg, rc, rk⟩; with_reducible exact ⟨_, rfl, rfl, hs.1, D5.out.grown hs.2 (by omega), below_into B5.out hs.2 (by omega)⟩))
  obtain ⟨bz, rfl, rfl, hq1, hd, hb⟩ := hcut
  have B11 := Lib.hid hb
  obtain ⟨c0, c1, c2, c3, c4, _⟩ := hq1
  obtain ⟨d0, d1, d2, d3, d4, _⟩ := hd
  dsimp only at c0 c1 c2 c3 c4 d0 d1 d2 d3 d4
  clear hb HG Q10 D10 RB10 B10
  go_wp2_with (go_at_call 62; (with_reducible refine (HV.out _).mono ?_); rintro e w12 ⟨rfl, hb12⟩)
  go_ret
  exact ⟨rfl, below_nx B11.out hb12⟩


namespace fnFormat
open Go.ChangeShapes Go.WideShapes Go.ChangeAt Go.RowKit
open Go.ChangeMaps (open_string shut_string)
set_option linter.unusedVariables false
theorem own : ownKnob Try.prog.godebug = none := by kernel_rfl
theorem laidOut : laidOutB Try.prog = true := by kernel_rfl
set_option maxRecDepth 100000 in
theorem lifted (os : Os) (started : os.Started) (H : Type) (enc : TypeId × Value → H) :
    ReturnsInHanded {} Try.checked os 12 .any (Rows.fnFormatSpec.pre6 enc Try.prog Try.f12 Rows.fnFormatRow.domain false) (Rows.fnFormatSpec.post enc Try.prog Try.f12 false true false false) := by
  refine returnsInHanded_of_change (C := Try.checked) own started (by kernel_rfl) Try.func12
    (ChangeSpec.witness6 (enc := enc) (C := Try.checked) false ⟨#[], #[.slice none 0 0], []⟩ 8 (by kernel_rfl) (by kernel_rfl) (by kernel_rfl) (by kernel_rfl)) ?_
  intro W base args ds gs before hval0 hW hcnd _
  have hval : ∀ (j : Nat) t v, Try.f12.params[j]? = some t → args[j]? = some v → Value.okWide Try.prog W .any base t v := hval0
  have hW' := hW
  obtain ⟨p, q, hA0, hV, rfl, hfz, hnd⟩ := hW
  have hA : DataW.TrodAll enc Try.prog W 0 (fun _ => true) true Try.f12.params.toList args.toList ds p := hA0
  rw [Try.params12] at hA hval
  obtain ⟨v0, vs0, d0, ds0, p0, q0, hargs, rfl, rfl, h0, r0⟩ := trodAll_cons hA
  obtain ⟨rfl, rfl, rfl⟩ := trodAll_nil r0
  obtain rfl : args = #[v0] := by cases args; simp_all
  obtain ⟨rfl, rfl⟩ := trodVars_none hV
  have k0 := h0
  have lt0 : ∀ x ∈ p0, x.block < W.heap.size := by obtain ⟨m, hm⟩ := k0; exact DataW.trod_lt m _ _ _ hm
  obtain ⟨a0, w0⟩ := (fun W v hv h => open_bytesR (w := W) (v := v) Try.underlying22 Try.underlying5 (by kernel_rfl) hv h) W v0 (hval 0 22 v0 rfl rfl) h0
  clear hA0 hval0
  refine (FnFormat_walk v0 a0 W w0).mono fun e W' ⟨he, bel⟩ => ?_
  subst he
  exact ⟨_, rfl, _, _, _, [], _, [], hW', trodAll_mk1 (shut_bool Try.underlying4 _), (trodAll_cons_mk (Below.trod laidOut (by kernel_rfl) (of_decide_eq_true (by kernel_rfl)) k0 bel lt0) trodAll_mk0), rfl, bel.frame _, fun h => by cases h⟩
theorem over : Rows.fnFormatRow.holds Try.pinned (OpenSpec.ofChange Rows.fnFormatSpec) :=
  OpenClaim.holds_of_wide 12 Try.f12 rfl rfl rfl rfl rfl rfl rfl ⟨rfl, rfl, rfl, rfl, rfl⟩ rfl rfl rfl rfl rfl (by kernel_rfl) Try.func12 (by kernel_rfl)
    (of_decide_eq_true (by kernel_rfl)) (by unfold Func.isWrapper; first | (rw [if_pos (by decide +kernel)]; kernel_rfl) | (rw [if_neg (by decide +kernel)]; exact ⟨rfl, rfl⟩))
    (fun os started H enc _ => lifted os started H enc)
theorem proved : Rows.FnFormatSaid := over
#print axioms proved
end fnFormat

end Go.Proofs.Ytfakaeddkhajbaa
