/-
  CONTRACT: MatchAt of the reference.
-/
import Derived.Test.YtkbbcmbeafjpaaaDoorMatchA
namespace Go.Proofs.YtkbbcmbeafjpaaaDoor
open Go.RowKit

set_option maxRecDepth 20000 in
set_option maxHeartbeats 1600000 in
theorem specMatchAt_any (v vo : Value) (l : List Ent) (o : List Int) (i : Int) (w : World) (hr : Ents w v l) (hl : l.length ≤ 1048576) (hs : ∀ p ∈ l, p.1.length ≤ 1048576 ∧ p.2.size ≤ 1048576) (ho : Rows w vo o.length 1 (ints o)) (hol : o.length ≤ 1048576) :
    Calls Tryd.prog 6 #[.agg #[v], vo, .int .i64 i] w fun e w' => e = .returned (.tuple #[.agg #[.int .i64 (mOut l o i).1, .int .i64 (mOut l o i).2.1, .string (mOut l o i).2.2], .bool (mOk l o i)]) ∧ Below w.heap.size w w' := by
  have HB0 := Lib.hid (Joins.below_alloc2 w (.cells #[v] 33) (.cells #[.int .i64 0, .int .i64 0, .string ⟨#[]⟩] 28))
  have HE := Lib.hid (hr.keep HB0.out)
  have HO := Lib.hid (ho.keep HB0.out)
  have HV := Lib.hid (l6Good_any v l _ HE.out hl hs)
  have HD := Lib.hid (fun (j : Nat) W h1 h2 hj => l11Match_any v vo l o j W h1 hl (fun p hp => (hs p hp).1) h2 hol hj)
  have HS := Lib.hid (fun W h => l11Strokes_any vo o W h hol)
  have E0 := Lib.hid (show matOk l o = (Pl.dictOk l && strokesOk o) from rfl)
  obtain ⟨a, cap, rfl, _, _⟩ := ent_form hr
  obtain ⟨ao, co, rfl, _, _⟩ := rows_form ho
  have HC := Lib.hid (show ((w.alloc (.cells #[.slice a l.length cap] 33)).alloc (.cells #[.int .i64 0, .int .i64 0, .string ⟨#[]⟩] 28)).cell? ⟨w.heap.size, 0, none⟩ = some (.slice a l.length cap) by simp [go_sem])
  have P0 := Lib.hid (show ((w.alloc (.cells #[.slice a l.length cap] 33)).alloc (.cells #[.int .i64 0, .int .i64 0, .string ⟨#[]⟩] 28)).cell? ⟨w.heap.size + 1, 0, none⟩ = some (.int .i64 0) by simp [go_sem])
  have P1 := Lib.hid (show ((w.alloc (.cells #[.slice a l.length cap] 33)).alloc (.cells #[.int .i64 0, .int .i64 0, .string ⟨#[]⟩] 28)).cell? ⟨w.heap.size + 1, 1, none⟩ = some (.int .i64 0) by simp [go_sem])
  have P2 := Lib.hid (show ((w.alloc (.cells #[.slice a l.length cap] 33)).alloc (.cells #[.int .i64 0, .int .i64 0, .string ⟨#[]⟩] 28)).cell? ⟨w.heap.size + 1, 2, none⟩ = some (.string ⟨#[]⟩) by simp [go_sem])
  have PF := Lib.hid (show ∀ i, ((w.alloc (.cells #[.slice a l.length cap] 33)).alloc (.cells #[.int .i64 0, .int .i64 0, .string ⟨#[]⟩] 28)).frozen? ⟨w.heap.size + 1, i, none⟩ = false by intro i; simp [go_sem])
  have PZ := Lib.hid (show w.heap.size + 1 < ((w.alloc (.cells #[.slice a l.length cap] 33)).alloc (.cells #[.int .i64 0, .int .i64 0, .string ⟨#[]⟩] 28)).heap.size by simp)
  have E1 := Lib.hid (show mOk l o i = (matOk l o && Pl.inB i 0 ((o.length : Int) - 1)) from rfl)
  have E2 := Lib.hid (show mOut l o i = if mOk l o i then matD l o i.toNat 6 else (0, 0, ⟨#[]⟩) from rfl)
  have hw1 : IntKind.i64.wrap ((o.length : Int) - 1) = (o.length : Int) - 1 := IntWalk.i64_in _ (by omega)
  clear hr ho hs
  cases hx : Pl.dictOk l
  · have h1 : matOk l o = false := by rw [E0.out, hx, Bool.false_and]
    have F1 := Lib.hid (show mOk l o i = false by rw [E1.out, h1, Bool.false_and])
    have F2 := Lib.hid (show mOut l o i = (0, 0, ⟨#[]⟩) by rw [E2.out, F1.out]; rfl)
    rw [hx] at HV
    clear h1 hx E0 E1 E2 HD
    go_enter Tryd.func6, Tryd.ntmps6
    go_wp2_with (first
      | (go_at_call 19; (with_reducible refine HV.out.mono ?_); rintro e w1 ⟨rfl, hb1⟩; have HB1 := Lib.hid (HB0.out.trans (hb1.mono HB0.out.size)); have d1 := keepcT hb1 HC.out; have p0 := keepcT hb1 P0.out; have p1 := keepcT hb1 P1.out; have p2 := keepcT hb1 P2.out; have HE1 := Lib.hid (HE.out.keep hb1); have HO1 := Lib.hid (HO.out.keep hb1); have HZ1 := Lib.hid (Nat.lt_of_lt_of_le PZ.out hb1.size); have pf := fun i => ((bcell hb1).2 _ i PZ.out).trans (PF.out i); clear hb1)
      | (go_at_call 20; (with_reducible refine (HS.out _ HO1.out).mono ?_); rintro e w' ⟨rfl, rfl⟩))
    refine bodyPost_ret (v := .tuple #[.agg #[.int .i64 0, .int .i64 0, .string ⟨#[]⟩], .bool false]) (by simp [results, Tryd.results6, go_sem, *]) rfl ⟨ret_pieceb F2.out F1.out, ?_⟩
    exact ((HB1.out.setCell (by dsimp only; omega) _).setCell (by dsimp only; omega) _).setCell (by dsimp only; omega) _
  cases hy : strokesOk o
  · have h1 : matOk l o = false := by rw [E0.out, hx, hy]; rfl
    have F1 := Lib.hid (show mOk l o i = false by rw [E1.out, h1, Bool.false_and])
    have F2 := Lib.hid (show mOut l o i = (0, 0, ⟨#[]⟩) by rw [E2.out, F1.out]; rfl)
    rw [hx] at HV; rw [hy] at HS
    clear h1 hx hy E0 E1 E2 HD
    go_enter Tryd.func6, Tryd.ntmps6
    go_wp2_with (first
      | (go_at_call 19; (with_reducible refine HV.out.mono ?_); rintro e w1 ⟨rfl, hb1⟩; have HB1 := Lib.hid (HB0.out.trans (hb1.mono HB0.out.size)); have d1 := keepcT hb1 HC.out; have p0 := keepcT hb1 P0.out; have p1 := keepcT hb1 P1.out; have p2 := keepcT hb1 P2.out; have HE1 := Lib.hid (HE.out.keep hb1); have HO1 := Lib.hid (HO.out.keep hb1); have HZ1 := Lib.hid (Nat.lt_of_lt_of_le PZ.out hb1.size); have pf := fun i => ((bcell hb1).2 _ i PZ.out).trans (PF.out i); clear hb1)
      | (go_at_call 20; (with_reducible refine (HS.out _ HO1.out).mono ?_); rintro e w' ⟨rfl, rfl⟩))
    refine bodyPost_ret (v := .tuple #[.agg #[.int .i64 0, .int .i64 0, .string ⟨#[]⟩], .bool false]) (by simp [results, Tryd.results6, go_sem, *]) rfl ⟨ret_pieceb F2.out F1.out, ?_⟩
    exact ((HB1.out.setCell (by dsimp only; omega) _).setCell (by dsimp only; omega) _).setCell (by dsimp only; omega) _
  have h1 : matOk l o = true := by rw [E0.out, hx, hy]; rfl
  rw [hy] at HS
  have HN := Lib.hid (fun W => l1In_any i 0 ((o.length : Int) - 1) W)
  rw [hx] at HV
  cases h2 : Pl.inB i 0 ((o.length : Int) - 1)
  · have F1 := Lib.hid (show mOk l o i = false by rw [E1.out, h2, Bool.and_false])
    have F2 := Lib.hid (show mOut l o i = (0, 0, ⟨#[]⟩) by rw [E2.out, F1.out]; rfl)
    rw [h2] at HN
    clear h1 h2 hx hy E0 E1 E2 HD
    go_enter Tryd.func6, Tryd.ntmps6
    go_wp2_with (first
      | (go_at_call 20; (with_reducible refine (HS.out _ HO1.out).mono ?_); rintro e w' ⟨rfl, rfl⟩)
      | (go_at_call 19; (with_reducible refine HV.out.mono ?_); rintro e w1 ⟨rfl, hb1⟩; have HB1 := Lib.hid (HB0.out.trans (hb1.mono HB0.out.size)); have d1 := keepcT hb1 HC.out; have p0 := keepcT hb1 P0.out; have p1 := keepcT hb1 P1.out; have p2 := keepcT hb1 P2.out; have HE1 := Lib.hid (HE.out.keep hb1); have HO1 := Lib.hid (HO.out.keep hb1); have HZ1 := Lib.hid (Nat.lt_of_lt_of_le PZ.out hb1.size); have pf := fun i => ((bcell hb1).2 _ i PZ.out).trans (PF.out i); clear hb1)
      | (go_at_call 21; (with_reducible refine (HN.out _).mono ?_); rintro e w' ⟨rfl, rfl⟩))
    refine bodyPost_ret (v := .tuple #[.agg #[.int .i64 0, .int .i64 0, .string ⟨#[]⟩], .bool false]) (by simp [results, Tryd.results6, go_sem, *]) rfl ⟨ret_pieceb F2.out F1.out, ?_⟩
    exact ((HB1.out.setCell (by dsimp only; omega) _).setCell (by dsimp only; omega) _).setCell (by dsimp only; omega) _
  · have F1 := Lib.hid (show mOk l o i = true by rw [E1.out, h1, h2]; rfl)
    obtain ⟨j, rfl, hj⟩ := in_nat h2
    have F2 := Lib.hid (show mOut l o (j : Int) = matD l o j 6 by rw [E2.out, F1.out]; rfl)
    rw [h2] at HN
    clear h1 h2 hx hy E0 E1 E2
    replace HD := Lib.hid (fun W h1 h2 => HD.out j W h1 h2 hj)
    generalize matD l o j 6 = q at HD F2
    go_enter Tryd.func6, Tryd.ntmps6
    go_wp2_with (first
      | (go_at_call 22; (with_reducible refine (HD.out _ HE1.out HO1.out).mono ?_); rintro e w2 ⟨rfl, hb2⟩; have HB2 := Lib.hid (HB1.out.trans (hb2.mono HB1.out.size)); have r0 := keepcT hb2 p0; have r1 := keepcT hb2 p1; have r2 := keepcT hb2 p2; have rf := fun i => ((bcell hb2).2 _ i HZ1.out).trans (pf i); clear hb2)
      | (go_at_call 20; (with_reducible refine (HS.out _ HO1.out).mono ?_); rintro e w' ⟨rfl, rfl⟩)
      | (go_at_call 19; (with_reducible refine HV.out.mono ?_); rintro e w1 ⟨rfl, hb1⟩; have HB1 := Lib.hid (HB0.out.trans (hb1.mono HB0.out.size)); have d1 := keepcT hb1 HC.out; have p0 := keepcT hb1 P0.out; have p1 := keepcT hb1 P1.out; have p2 := keepcT hb1 P2.out; have HE1 := Lib.hid (HE.out.keep hb1); have HO1 := Lib.hid (HO.out.keep hb1); have HZ1 := Lib.hid (Nat.lt_of_lt_of_le PZ.out hb1.size); have pf := fun i => ((bcell hb1).2 _ i PZ.out).trans (PF.out i); clear hb1)
      | (go_at_call 21; (with_reducible refine (HN.out _).mono ?_); rintro e w' ⟨rfl, rfl⟩))
    refine bodyPost_ret (v := .tuple #[.agg #[.int .i64 q.1, .int .i64 q.2.1, .string q.2.2], .bool true]) (by simp [results, Tryd.results6, go_sem, *]) rfl ⟨ret_pieceb F2.out F1.out, ?_⟩
    exact ((HB2.out.setCell (by dsimp only; omega) _).setCell (by dsimp only; omega) _).setCell (by dsimp only; omega) _

end Go.Proofs.YtkbbcmbeafjpaaaDoor
