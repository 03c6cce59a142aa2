/-
  CONTRACTS: an outline looked up in a stack of layers, of the program and of the reference.
-/
import Derived.Test.YtdidgaibgkdjoaaGreatDoorStackI
import Derived.Test.YtdidgaibgkdjoaaGreatDoorBasD
import Derived.Test.YtdidgaibgkdjoaaGreatDoorPlainStk
import Derived.OwnWalk
namespace Go.Proofs.YtdidgaibgkdjoaaGreatDoor
open Go.RowKit

theorem ret_sib {s t : ByteArray} {i j : Int} {x y : Bool} {p : ByteArray × Int × Bool} (h : p = (t, j, y)) (h1 : s = t) (h2 : i = j) (h3 : x = y) : Ending.returned (.tuple #[.string s, .int .i64 i, .bool x]) = .returned (.tuple #[.string p.1, .int .i64 p.2.1, .bool p.2.2]) := by subst h; subst h1; subst h2; subst h3; rfl

set_option maxRecDepth 20000 in
set_option maxHeartbeats 3200000 in
theorem lookupS_any (v vo : Value) (l : List Lay) (o : List Int) (w : World) (hr : Lays w v l) (hl : l.length ≤ 1048576) (hs : ∀ q ∈ l, LayFit q) (ho : Rows w vo o.length 1 (ints o)) :
    Calls Tryz.prog 58 #[.agg #[v], vo] w fun e w' => e = .returned (.tuple #[.string (stFrom o 0 l).1, .int .i64 (stFrom o 0 l).2.1, .bool (stFrom o 0 l).2.2]) ∧ Below w.heap.size w w' := by
  have HB0 := Lib.hid (Joins.below_alloc1 w (.cells #[v] 49))
  have HE := Lib.hid (hr.keep HB0.out)
  have HO := Lib.hid (ho.keep HB0.out)
  have HF := Lib.hid hs
  obtain ⟨a, cap, rfl, _, _⟩ := lay_form hr
  obtain ⟨ao, co, rfl, _, _⟩ := rows_form ho
  have HC := Lib.hid (show (w.alloc (.cells #[.slice a l.length cap] 49)).cell? ⟨w.heap.size, 0, none⟩ = some (.slice a l.length cap) by simp [go_sem])
  clear hr hs ho
  go_enter Tryz.func58, Tryz.ntmps58
  go_upto_region 2 with fail
  obtain ⟨W0, hW0⟩ : ∃ W0, W0 = w.alloc (.cells #[.slice a l.length cap] 49) := ⟨_, rfl⟩
  rw [← hW0] at HB0 HE HC HO ⊢
  have HW := Lib.hid (show w.heap.size ≤ W0.heap.size from HB0.out.size)
  clear hW0
  go_loopw [14] (fun i wr => ∃ k : Nat, k ≤ l.length ∧ i = .int .i64 k ∧ Hid (stFrom o 0 l = stFrom o k (l.drop k)) ∧ Below W0.heap.size W0 wr) (fun i _ => l.length - (intOf i).toNat)
  case atStart => exact ⟨0, Nat.zero_le _, rfl, Lib.hid rfl, Below.refl _ _⟩
  case round =>
    obtain ⟨k, hk, rfl, HA, hb⟩ := hrel
    have HB := Lib.hid hb; clear hb
    by_cases hlt : k < l.length
    · obtain ⟨b, off, u, rfl, c1, c2, c3⟩ := lay_at (HE.out.keep HB.out) k hlt
      have hki : (k : Int) < (l.length : Int) := by omega
      have hk0 : (0 : Int) ≤ (k : Int) := by omega
      have hf := HF.out _ (List.getElem_mem hlt)
      generalize hpk : l[k] = p at c1 c2 c3 hf
      have HPK := Lib.hid hpk; clear hpk
      obtain ⟨pl, py⟩ := p
      obtain ⟨au, cu, rfl, _, _⟩ := ent_form c3
      replace c1 : wr.cell? ⟨b, off + k * 2, none⟩ = some (.slice au pl.length cu) := c1
      replace c2 : wr.cell? ⟨b, off + k * 2 + 1, none⟩ = some (.bool py) := c2
      have HL := Lib.hid (fun W h1 h2 => lookup_any (.slice au pl.length cu) (.slice ao o.length co) pl o W h1 hf.1 (fun p hp => (hf.2 p hp).1) h2)
      have HBa := Joins.below_alloc1 wr (.cells #[.slice au pl.length cu, .bool py] 96)
      have HB1 := Lib.hid (below_on3 HB.out HBa)
      have HEu := Lib.hid (show Ents _ (.slice au pl.length cu) pl from c3.keep HBa)
      have HO1 := Lib.hid (HO.out.keep HB1.out)
      have e1 : (wr.alloc (.cells #[.slice au pl.length cu, .bool py] 96)).cell? ⟨wr.heap.size, 1, none⟩ = some (.bool py) := by simp [go_sem]
      have HMS := Lib.hid (fun h => HA.out.trans (st_miss (o := o) hlt HPK.out h).1)
      have HHT := Lib.hid (fun h => HA.out.trans (st_hit (o := o) hlt HPK.out h).1)
      have HLH := Lib.hid (show layHit o (pl, py) = (py && Pl.hasD pl o) from rfl)
      clear HA HPK hf c3 HBa
      generalize Pl.hasD pl o = y at HL HLH
      dsimp only at HHT
      generalize Pl.textD pl o = tx at HL HHT
      cases py
      · cases y
        · have E := Lib.hid (HMS.out (by rw [HLH.out]; rfl))
          clear HMS HHT HLH
          go_wp2_with (go_at_call 52; (with_reducible refine (HL.out _ HEu.out HO1.out).mono ?_); rintro e w2 ⟨rfl, hb2⟩; have g1 := keepcT hb2 e1; have HB2 := Lib.hid (HB1.out.trans (hb2.mono HB1.out.size)); clear hb2)
          go_roundw
          case rel => exact ⟨k + 1, by omega, by go_num, E, HB2.out⟩
          case measure => simp [intOf]; omega
        · have E := Lib.hid (HMS.out (by rw [HLH.out]; rfl))
          clear HMS HHT HLH
          go_wp2_with (go_at_call 52; (with_reducible refine (HL.out _ HEu.out HO1.out).mono ?_); rintro e w2 ⟨rfl, hb2⟩; have g1 := keepcT hb2 e1; have HB2 := Lib.hid (HB1.out.trans (hb2.mono HB1.out.size)); clear hb2)
          go_roundw
          case rel => exact ⟨k + 1, by omega, by go_num, E, HB2.out⟩
          case measure => simp [intOf]; omega
      · cases y
        · have E := Lib.hid (HMS.out (by rw [HLH.out]; rfl))
          clear HMS HHT HLH
          go_wp2_with (go_at_call 52; (with_reducible refine (HL.out _ HEu.out HO1.out).mono ?_); rintro e w2 ⟨rfl, hb2⟩; have g1 := keepcT hb2 e1; have HB2 := Lib.hid (HB1.out.trans (hb2.mono HB1.out.size)); clear hb2)
          go_roundw
          case rel => exact ⟨k + 1, by omega, by go_num, E, HB2.out⟩
          case measure => simp [intOf]; omega
        · have E := Lib.hid (HHT.out (by rw [HLH.out]; rfl))
          clear HMS HHT HLH
          go_wp2_with (go_at_call 52; (with_reducible refine (HL.out _ HEu.out HO1.out).mono ?_); rintro e w2 ⟨rfl, hb2⟩; have g1 := keepcT hb2 e1; have HB2 := Lib.hid (HB1.out.trans (hb2.mono HB1.out.size)); clear hb2)
          go_ret3
          exact ⟨ret_sib E.out rfl rfl rfl, HB0.out.trans (HB2.out.mono HW.out)⟩
    · obtain rfl : k = l.length := by omega
      have E := Lib.hid (HA.out.trans (st_none o l.length l (Nat.le_refl _)).1)
      clear HA
      go_wp2
      go_ret3
      exact ⟨ret_sib E.out rfl rfl rfl, HB0.out.trans (HB.out.mono HW.out)⟩

set_option maxRecDepth 20000 in
set_option maxHeartbeats 3200000 in
theorem l8Find_any (v vo : Value) (l : List Lay) (o : List Int) (w : World) (hr : Lays w v l) (hl : l.length ≤ 1048576) (hs : ∀ q ∈ l, LayFit q) (ho : Rows w vo o.length 1 (ints o)) :
    Calls Tryz.prog 55 #[.agg #[v], vo] w fun e w' => e = .returned (.int .i64 (stI o 0 l)) ∧ Below w.heap.size w w' := by
  have HB0 := Lib.hid (Joins.below_alloc1 w (.cells #[v] 49))
  have HE := Lib.hid (hr.keep HB0.out)
  have HO := Lib.hid (ho.keep HB0.out)
  have HF := Lib.hid hs
  obtain ⟨a, cap, rfl, _, _⟩ := lay_form hr
  obtain ⟨ao, co, rfl, _, _⟩ := rows_form ho
  have HC := Lib.hid (show (w.alloc (.cells #[.slice a l.length cap] 49)).cell? ⟨w.heap.size, 0, none⟩ = some (.slice a l.length cap) by simp [go_sem])
  clear hr hs ho
  go_enter Tryz.func55, Tryz.ntmps55
  go_upto_region 2 with fail
  obtain ⟨W0, hW0⟩ : ∃ W0, W0 = w.alloc (.cells #[.slice a l.length cap] 49) := ⟨_, rfl⟩
  rw [← hW0] at HB0 HE HC HO ⊢
  have HW := Lib.hid (show w.heap.size ≤ W0.heap.size from HB0.out.size)
  clear hW0
  go_loopw [5] (fun i wr => ∃ k : Nat, k ≤ l.length ∧ i = .int .i64 k ∧ Hid (stI o 0 l = stI o k (l.drop k)) ∧ Below W0.heap.size W0 wr) (fun i _ => l.length - (intOf i).toNat)
  case atStart => exact ⟨0, Nat.zero_le _, rfl, Lib.hid rfl, Below.refl _ _⟩
  case round =>
    obtain ⟨k, hk, rfl, HA, hb⟩ := hrel
    have HB := Lib.hid hb; clear hb
    have q0 := keepcT HB.out HC.out
    by_cases hlt : k < l.length
    · obtain ⟨b, off, u, rfl, c1, c2, c3⟩ := lay_at (HE.out.keep HB.out) k hlt
      have hki : (k : Int) < (l.length : Int) := by omega
      have hk0 : (0 : Int) ≤ (k : Int) := by omega
      have hf := HF.out _ (List.getElem_mem hlt)
      generalize hpk : l[k] = p at c1 c2 c3 hf
      have HPK := Lib.hid hpk; clear hpk
      obtain ⟨pl, py⟩ := p
      obtain ⟨au, cu, rfl, _, _⟩ := ent_form c3
      replace c1 : wr.cell? ⟨b, off + k * 2, none⟩ = some (.slice au pl.length cu) := c1
      replace c2 : wr.cell? ⟨b, off + k * 2 + 1, none⟩ = some (.bool py) := c2
      have HL := Lib.hid (fun W h1 h2 => l6At_any (.slice au pl.length cu) (.slice ao o.length co) pl o W h1 hf.1 (fun p hp => (hf.2 p hp).1) h2)
      have HEu := Lib.hid (show Ents _ (.slice au pl.length cu) pl from c3)
      have HO1 := Lib.hid (HO.out.keep HB.out)
      have HMS := Lib.hid (fun h => HA.out.trans (st_miss (o := o) hlt HPK.out h).2)
      have HHT := Lib.hid (fun h => HA.out.trans (st_hit (o := o) hlt HPK.out h).2)
      have HLH := Lib.hid (show layHit o (pl, py) = (py && Pl.hasD pl o) from rfl)
      have HQ := Lib.hid (Pl.atD_cases pl o)
      clear HA HPK hf c3
      cases py
      · have E := Lib.hid (HMS.out (by rw [HLH.out]; rfl))
        clear HMS HHT HLH HL HQ
        go_wp2
        go_roundw
        case rel => exact ⟨k + 1, by omega, by go_num, E, HB.out⟩
        case measure => simp [intOf]; omega
      · rcases HQ.out with h | ⟨j, hj, h, _⟩
        · have E := Lib.hid (HMS.out (by rw [HLH.out]; unfold Pl.hasD; rw [h]; rfl))
          rw [h] at HL
          clear HMS HHT HLH h HQ
          go_wp2_with (go_at_call 103; (with_reducible refine (HL.out _ HEu.out HO1.out).mono ?_); rintro e w2 ⟨rfl, hb2⟩; have HB2 := Lib.hid (HB.out.trans (hb2.mono HB.out.size)); clear hb2)
          go_roundw
          case rel => exact ⟨k + 1, by omega, by go_num, E, HB2.out⟩
          case measure => simp [intOf]; omega
        · have E := Lib.hid (HHT.out (by rw [HLH.out]; unfold Pl.hasD; rw [h, Bool.true_and]; exact decide_eq_true (by omega)))
          rw [h] at HL
          have hj0 : (0 : Int) ≤ (j : Int) := by omega
          clear HMS HHT HLH h HQ
          go_wp2_with (go_at_call 103; (with_reducible refine (HL.out _ HEu.out HO1.out).mono ?_); rintro e w2 ⟨rfl, hb2⟩; have HB2 := Lib.hid (HB.out.trans (hb2.mono HB.out.size)); clear hb2)
          go_ret
          exact ⟨ret_int E.out.symm, HB0.out.trans (HB2.out.mono HW.out)⟩
    · obtain rfl : k = l.length := by omega
      have E := Lib.hid (HA.out.trans (st_none o l.length l (Nat.le_refl _)).2)
      clear HA
      go_wp2
      go_ret
      exact ⟨ret_int E.out.symm, HB0.out.trans (HB.out.mono HW.out)⟩

def lsOut (l : List Lay) (o : List Int) : ByteArray × Int × Bool := if stackOk l = true then stFrom o 0 l else (⟨#[]⟩, 0, false)

end Go.Proofs.YtdidgaibgkdjoaaGreatDoor
