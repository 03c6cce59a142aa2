/-
  CONTRACT: the reference's look at a dictionary. (Printed by gengood.py.)
-/
import Derived.Test.YtfjdbchffhbidaaDoorDict0
import Derived.Test.YtfjdbchffhbidaaDoorSkip
namespace Go.Proofs.YtfjdbchffhbidaaDoor
open Go.RowKit
set_option linter.unusedSimpArgs false

set_option maxRecDepth 20000 in
set_option maxHeartbeats 3200000 in
theorem l6Good_any (v : Value) (l : List Ent) (w : World) (hr : Ents w v l) (hl : l.length ≤ 1048576) (hs : ∀ p ∈ l, p.1.length ≤ 1048576 ∧ p.2.size ≤ 1048576) :
    Calls Tryd.prog 60 #[.agg #[v]] w fun e w' => e = .returned (.bool (Pl.dictOk l)) ∧ Below w.heap.size w w' := by
  have HB0 := Lib.hid (Joins.below_alloc1 w (.cells #[v] 49))
  have HE := Lib.hid (hr.keep HB0.out)
  have HF := Lib.hid hs
  obtain ⟨a, cap, rfl, _, _⟩ := ent_form hr
  have HC := Lib.hid (show (w.alloc (.cells #[.slice a l.length cap] 49)).cell? ⟨w.heap.size, 0, none⟩ = some (.slice a l.length cap) by simp [go_sem])
  clear hr hs
  by_cases h40 : 40 < l.length
  · have E := Lib.hid (show Pl.dictOk l = false from Pl.dict_long h40)
    have h40' : (40 : Int) < (l.length : Int) := by omega
    go_enter Tryd.func60, Tryd.ntmps60
    go_wp2
    go_ret
    exact ⟨ret_bool E.out.symm, HB0.out⟩
  have h40' : ¬ (40 : Int) < (l.length : Int) := by omega
  go_enter Tryd.func60, Tryd.ntmps60
  go_upto_region 4 with fail
  obtain ⟨W0, hW0⟩ : ∃ W0, W0 = w.alloc (.cells #[.slice a l.length cap] 49) := ⟨_, rfl⟩
  rw [← hW0] at HB0 HE HC ⊢
  have HW := Lib.hid (show w.heap.size ≤ W0.heap.size from HB0.out.size)
  clear hW0
  go_loopw [3] (fun i wr => ∃ k : Nat, k ≤ l.length ∧ i = .int .i64 k ∧ Hid (Pl.allTo (Pl.dictAt l) k = true) ∧ Below W0.heap.size W0 wr) (fun i _ => l.length - (intOf i).toNat)
  case atStart => exact ⟨0, Nat.zero_le _, rfl, Lib.hid rfl, Below.refl _ _⟩
  case round =>
    obtain ⟨k, hk, rfl, HA, hb⟩ := hrel
    have HB := Lib.hid hb; clear hb
    have q0' := keepcT HB.out HC.out
    by_cases hlt : k < l.length
    · obtain ⟨b, off, u, rfl, c1, c2, c3⟩ := ent_at (HE.out.keep HB.out) k hlt
      have q0 : wr.drew.cell? ⟨w.heap.size, 0, none⟩ = some (.slice (some ⟨b, off, none⟩) l.length cap) := q0'
      have hki : (k : Int) < (l.length : Int) := by omega
      have hk0' : (0 : Int) ≤ (k : Int) := by omega
      have hf := HF.out _ (List.getElem_mem hlt)
      obtain ⟨au, cu, rfl, _, _⟩ := rows_form c3
      have HR := Lib.hid c3
      clear c3
      cases hq : Pl.entOk l[k]
      · have E := Lib.hid (Pl.dict_no hlt (Pl.dict_none hlt hq))
        generalize hp : l[k] = p at c1 c2 hf HR hq
        obtain ⟨pl, pt⟩ := p
        replace hq : Pl.entOk (pl, pt) = false := hq
        replace hf : pl.length ≤ 1048576 ∧ pt.size ≤ 1048576 := hf
        replace HR : Hid (Rows wr (.slice au pl.length cu) pl.length 1 (ints pl)) := HR
        replace c1 : wr.drew.cell? ⟨b, off + k * 2, none⟩ = some (.slice au pl.length cu) := c1
        replace c2 : wr.drew.cell? ⟨b, off + k * 2 + 1, none⟩ = some (.string pt) := c2
        have HV := Lib.hid (fun W h1 => l6Entry_any (.slice au pl.length cu) pl pt W h1 hf.1 hf.2)
        rw [hq] at HV
        have HR1 := Lib.hid (show Rows wr.drew (.slice au pl.length cu) pl.length 1 (ints pl) from Rows.drew HR.out 1)
        clear HA hp
        go_upto_region 6 with fail
        refine wp_region_held_drew (S := fun w' => w'.cell? ⟨w.heap.size, 0, none⟩ = some (.slice (some ⟨b, off, none⟩) l.length cap) ∧ w'.cell? ⟨b, off + k * 2, none⟩ = some (.slice au pl.length cu) ∧ w'.cell? ⟨b, off + k * 2 + 1, none⟩ = some (.string pt)) (by kernel_rfl) ⟨q0, c1, c2⟩ (fun hHeld => ?_)
        refine takeH 0 15 (.pointer (some ⟨w.heap.size, 0, none⟩)) rfl (by kernel_rfl) (by kernel_rfl) (by kernel_rfl) (by kernel_rfl) (fun _ _ _ _ h => h) hHeld (Or.inl ⟨rfl, fun w _ => by first | rfl | (go_simp; done) | (go_simp; exact HK0.out)⟩) ?_
        (try simp only [Act.put, List.foldl_cons, List.foldl_nil, List.setIfInBounds_toArray, List.set_cons_zero, List.set_cons_succ])
        refine takeH 1 16 (.slice (some ⟨b, off, none⟩) l.length cap) rfl (by kernel_rfl) (by kernel_rfl) (by kernel_rfl) (by kernel_rfl) (fun _ _ _ _ h => h) hHeld (Or.inl ⟨rfl, fun w' hw => by obtain ⟨hw1, hw2, hw3⟩ := hw; go_simp⟩) ?_
        (try simp only [Act.put, List.foldl_cons, List.foldl_nil, List.setIfInBounds_toArray, List.set_cons_zero, List.set_cons_succ])
        refine takeH 2 17 (.int .i64 (k : Int)) rfl (by kernel_rfl) (by kernel_rfl) (by kernel_rfl) (by kernel_rfl) (fun _ _ _ _ h => h) hHeld (Or.inl ⟨rfl, fun w _ => by first | rfl | (go_simp; done) | (go_simp; exact HK0.out)⟩) ?_
        (try simp only [Act.put, List.foldl_cons, List.foldl_nil, List.setIfInBounds_toArray, List.set_cons_zero, List.set_cons_succ])
        refine takeH 3 18 (.pointer (some ⟨b, off + k * 2, none⟩)) rfl (by kernel_rfl) (by kernel_rfl) (by kernel_rfl) (by kernel_rfl) (fun _ _ _ _ h => h) hHeld (Or.inl ⟨rfl, fun w _ => by first | rfl | (go_simp; done) | (go_simp; exact HK0.out)⟩) ?_
        (try simp only [Act.put, List.foldl_cons, List.foldl_nil, List.setIfInBounds_toArray, List.set_cons_zero, List.set_cons_succ])
        refine takeH 4 19 (.agg #[.slice au pl.length cu, .string pt]) rfl (by kernel_rfl) (by kernel_rfl) (by kernel_rfl) (by kernel_rfl) (fun _ _ _ _ h => h) hHeld (Or.inl ⟨rfl, fun w' hw => by obtain ⟨hw1, hw2, hw3⟩ := hw; go_simp⟩) ?_
        (try simp only [Act.put, List.foldl_cons, List.foldl_nil, List.setIfInBounds_toArray, List.set_cons_zero, List.set_cons_succ])
        refine wpAnyH_ready (rs := [5]) (by kernel_rfl) (by simp) ?_
        refine AllReadyH.cons (o := _) rfl (fun K hK => ?_) AllReadyH.nil
        go_simp
        (go_at_call 94; (with_reducible refine (HV.out _ HR1.out).mono ?_); rintro e w1 ⟨rfl, hb1⟩; have HB2 := Lib.hid ((below_drew1 HB.out).trans (hb1.mono HB.out.size)); have cf0 := keepcT hb1 q0; have cf1 := keepcT hb1 c1; have cf2 := keepcT hb1 c2; clear hb1)
        go_wp2_with fail
        refine hK.out _ _ ⟨cf0, cf1, cf2⟩ (fun hHeld2 => ?_)
        clear hK K hHeld
        have hHeld := hHeld2
        clear hHeld2
        (try simp only [Act.put, List.foldl_cons, List.foldl_nil, List.setIfInBounds_toArray, List.set_cons_zero, List.set_cons_succ])
        refine takeH 6 21 (.bool true) rfl (by kernel_rfl) (by kernel_rfl) (by kernel_rfl) (by kernel_rfl) (fun _ _ _ _ h => h) hHeld (Or.inl ⟨rfl, fun w _ => by first | rfl | (go_simp; done) | (go_simp; exact HK0.out)⟩) ?_
        (try simp only [Act.put, List.foldl_cons, List.foldl_nil, List.setIfInBounds_toArray, List.set_cons_zero, List.set_cons_succ])
        refine takeH 7 22 (.bool true) rfl (by kernel_rfl) (by kernel_rfl) (by kernel_rfl) (by kernel_rfl) (fun _ _ _ _ h => h) hHeld (Or.inl ⟨rfl, fun w _ => by first | rfl | (go_simp; done) | (go_simp; exact HK0.out)⟩) ?_
        (try simp only [Act.put, List.foldl_cons, List.foldl_nil, List.setIfInBounds_toArray, List.set_cons_zero, List.set_cons_succ])
        refine skipsH (by kernel_rfl) [(8, 23), (9, 24), (10, 25), (11, 26), (12, 27), (13, 28), (14, 29), (15, 30), (16, 31), (17, 32), (18, 33), (19, 34), (20, 35), (21, 36), (22, 37), (23, 38), (24, 39), (25, 40), (26, 41)] _ _ _ _ (by kernel_rfl) (fun _ _ _ _ h => h) hHeld ?_
        (try simp only [Act.put, List.foldl_cons, List.foldl_nil, List.setIfInBounds_toArray, List.set_cons_zero, List.set_cons_succ])
        refine takeH 27 42 (.bool true) rfl (by kernel_rfl) (by kernel_rfl) (by kernel_rfl) (by kernel_rfl) (fun _ _ _ _ h => h) hHeld (Or.inl ⟨rfl, fun w _ => by first | rfl | (go_simp; done) | (go_simp; exact HK0.out)⟩) ?_
        (try simp only [Act.put, List.foldl_cons, List.foldl_nil, List.setIfInBounds_toArray, List.set_cons_zero, List.set_cons_succ])
        refine wpAnyH_done (by kernel_rfl) ?_ _
        go_wp2_with fail
        go_ret
        exact ⟨ret_bool E.out.symm, HB0.out.trans (HB2.out.mono HW.out)⟩
      · by_cases hk0 : k = 0
        · have E := Lib.hid (show Pl.dictAt l k = true by subst hk0; exact Pl.dict_zero hlt hq)
          have hkz : ¬ (0 : Int) < (k : Int) := by omega
          have HK0 := Lib.hid hk0
          clear hk0
          generalize hp : l[k] = p at c1 c2 hf HR hq
          obtain ⟨pl, pt⟩ := p
          replace hq : Pl.entOk (pl, pt) = true := hq
          replace hf : pl.length ≤ 1048576 ∧ pt.size ≤ 1048576 := hf
          replace HR : Hid (Rows wr (.slice au pl.length cu) pl.length 1 (ints pl)) := HR
          replace c1 : wr.drew.cell? ⟨b, off + k * 2, none⟩ = some (.slice au pl.length cu) := c1
          replace c2 : wr.drew.cell? ⟨b, off + k * 2 + 1, none⟩ = some (.string pt) := c2
          have HV := Lib.hid (fun W h1 => l6Entry_any (.slice au pl.length cu) pl pt W h1 hf.1 hf.2)
          rw [hq] at HV
          have HR1 := Lib.hid (show Rows wr.drew (.slice au pl.length cu) pl.length 1 (ints pl) from Rows.drew HR.out 1)
          clear hp
          go_upto_region 6 with fail
          refine wp_region_held_drew (S := fun w' => w'.cell? ⟨w.heap.size, 0, none⟩ = some (.slice (some ⟨b, off, none⟩) l.length cap) ∧ w'.cell? ⟨b, off + k * 2, none⟩ = some (.slice au pl.length cu) ∧ w'.cell? ⟨b, off + k * 2 + 1, none⟩ = some (.string pt)) (by kernel_rfl) ⟨q0, c1, c2⟩ (fun hHeld => ?_)
          refine takeH 0 15 (.pointer (some ⟨w.heap.size, 0, none⟩)) rfl (by kernel_rfl) (by kernel_rfl) (by kernel_rfl) (by kernel_rfl) (fun _ _ _ _ h => h) hHeld (Or.inl ⟨rfl, fun w _ => by first | rfl | (go_simp; done) | (go_simp; exact HK0.out)⟩) ?_
          (try simp only [Act.put, List.foldl_cons, List.foldl_nil, List.setIfInBounds_toArray, List.set_cons_zero, List.set_cons_succ])
          refine takeH 1 16 (.slice (some ⟨b, off, none⟩) l.length cap) rfl (by kernel_rfl) (by kernel_rfl) (by kernel_rfl) (by kernel_rfl) (fun _ _ _ _ h => h) hHeld (Or.inl ⟨rfl, fun w' hw => by obtain ⟨hw1, hw2, hw3⟩ := hw; go_simp⟩) ?_
          (try simp only [Act.put, List.foldl_cons, List.foldl_nil, List.setIfInBounds_toArray, List.set_cons_zero, List.set_cons_succ])
          refine takeH 2 17 (.int .i64 (k : Int)) rfl (by kernel_rfl) (by kernel_rfl) (by kernel_rfl) (by kernel_rfl) (fun _ _ _ _ h => h) hHeld (Or.inl ⟨rfl, fun w _ => by first | rfl | (go_simp; done) | (go_simp; exact HK0.out)⟩) ?_
          (try simp only [Act.put, List.foldl_cons, List.foldl_nil, List.setIfInBounds_toArray, List.set_cons_zero, List.set_cons_succ])
          refine takeH 3 18 (.pointer (some ⟨b, off + k * 2, none⟩)) rfl (by kernel_rfl) (by kernel_rfl) (by kernel_rfl) (by kernel_rfl) (fun _ _ _ _ h => h) hHeld (Or.inl ⟨rfl, fun w _ => by first | rfl | (go_simp; done) | (go_simp; exact HK0.out)⟩) ?_
          (try simp only [Act.put, List.foldl_cons, List.foldl_nil, List.setIfInBounds_toArray, List.set_cons_zero, List.set_cons_succ])
          refine takeH 4 19 (.agg #[.slice au pl.length cu, .string pt]) rfl (by kernel_rfl) (by kernel_rfl) (by kernel_rfl) (by kernel_rfl) (fun _ _ _ _ h => h) hHeld (Or.inl ⟨rfl, fun w' hw => by obtain ⟨hw1, hw2, hw3⟩ := hw; go_simp⟩) ?_
          (try simp only [Act.put, List.foldl_cons, List.foldl_nil, List.setIfInBounds_toArray, List.set_cons_zero, List.set_cons_succ])
          refine wpAnyH_ready (rs := [5]) (by kernel_rfl) (by simp) ?_
          refine AllReadyH.cons (o := _) rfl (fun K hK => ?_) AllReadyH.nil
          go_simp
          (go_at_call 94; (with_reducible refine (HV.out _ HR1.out).mono ?_); rintro e w1 ⟨rfl, hb1⟩; have HB2 := Lib.hid ((below_drew1 HB.out).trans (hb1.mono HB.out.size)); have cf0 := keepcT hb1 q0; have cf1 := keepcT hb1 c1; have cf2 := keepcT hb1 c2; clear hb1)
          go_wp2_with fail
          refine hK.out _ _ ⟨cf0, cf1, cf2⟩ (fun hHeld2 => ?_)
          clear hK K hHeld
          have hHeld := hHeld2
          clear hHeld2
          (try simp only [Act.put, List.foldl_cons, List.foldl_nil, List.setIfInBounds_toArray, List.set_cons_zero, List.set_cons_succ])
          refine takeH 6 21 (.bool false) rfl (by kernel_rfl) (by kernel_rfl) (by kernel_rfl) (by kernel_rfl) (fun _ _ _ _ h => h) hHeld (Or.inl ⟨rfl, fun w _ => by first | rfl | (go_simp; done) | (go_simp; exact HK0.out)⟩) ?_
          (try simp only [Act.put, List.foldl_cons, List.foldl_nil, List.setIfInBounds_toArray, List.set_cons_zero, List.set_cons_succ])
          refine takeH 7 22 (.bool false) rfl (by kernel_rfl) (by kernel_rfl) (by kernel_rfl) (by kernel_rfl) (fun _ _ _ _ h => h) hHeld (Or.inl ⟨rfl, fun w _ => by first | rfl | (go_simp; done) | (go_simp; exact HK0.out)⟩) ?_
          (try simp only [Act.put, List.foldl_cons, List.foldl_nil, List.setIfInBounds_toArray, List.set_cons_zero, List.set_cons_succ])
          refine takeH 8 23 (.int .i64 (k : Int)) rfl (by kernel_rfl) (by kernel_rfl) (by kernel_rfl) (by kernel_rfl) (fun _ _ _ _ h => h) hHeld (Or.inl ⟨rfl, fun w _ => by first | rfl | (go_simp; done) | (go_simp; exact HK0.out)⟩) ?_
          (try simp only [Act.put, List.foldl_cons, List.foldl_nil, List.setIfInBounds_toArray, List.set_cons_zero, List.set_cons_succ])
          refine takeH 9 24 (.bool false) rfl (by kernel_rfl) (by kernel_rfl) (by kernel_rfl) (by kernel_rfl) (fun _ _ _ _ h => h) hHeld (Or.inl ⟨rfl, fun w _ => by first | rfl | (go_simp; done) | (go_simp; exact HK0.out)⟩) ?_
          (try simp only [Act.put, List.foldl_cons, List.foldl_nil, List.setIfInBounds_toArray, List.set_cons_zero, List.set_cons_succ])
          refine takeH 10 25 (.bool false) rfl (by kernel_rfl) (by kernel_rfl) (by kernel_rfl) (by kernel_rfl) (fun _ _ _ _ h => h) hHeld (Or.inl ⟨rfl, fun w _ => by first | rfl | (go_simp; done) | (go_simp; exact HK0.out)⟩) ?_
          (try simp only [Act.put, List.foldl_cons, List.foldl_nil, List.setIfInBounds_toArray, List.set_cons_zero, List.set_cons_succ])
          refine skipsH (by kernel_rfl) [(11, 26), (12, 27), (13, 28), (14, 29), (15, 30), (16, 31), (17, 32), (18, 33), (19, 34), (20, 35), (21, 36), (22, 37), (23, 38), (24, 39), (25, 40)] _ _ _ _ (by kernel_rfl) (fun _ _ _ _ h => h) hHeld ?_
          (try simp only [Act.put, List.foldl_cons, List.foldl_nil, List.setIfInBounds_toArray, List.set_cons_zero, List.set_cons_succ])
          refine takeH 26 41 (.bool false) rfl (by kernel_rfl) (by kernel_rfl) (by kernel_rfl) (by kernel_rfl) (fun _ _ _ _ h => h) hHeld (Or.inl ⟨rfl, fun w _ => by first | rfl | (go_simp; done) | (go_simp; exact HK0.out)⟩) ?_
          (try simp only [Act.put, List.foldl_cons, List.foldl_nil, List.setIfInBounds_toArray, List.set_cons_zero, List.set_cons_succ])
          refine takeH 27 42 (.bool false) rfl (by kernel_rfl) (by kernel_rfl) (by kernel_rfl) (by kernel_rfl) (fun _ _ _ _ h => h) hHeld (Or.inl ⟨rfl, fun w _ => by first | rfl | (go_simp; done) | (go_simp; exact HK0.out)⟩) ?_
          (try simp only [Act.put, List.foldl_cons, List.foldl_nil, List.setIfInBounds_toArray, List.set_cons_zero, List.set_cons_succ])
          refine wpAnyH_done (by kernel_rfl) ?_ _
          go_wp2_with fail
          go_roundw
          case rel => exact ⟨k + 1, by omega, by go_num, Lib.hid (Pl.allTo_yes HA.out E.out), HB2.out⟩
          case measure => simp [intOf]; omega
        · obtain ⟨j, hj⟩ : ∃ j, k = j + 1 := ⟨k - 1, by omega⟩
          have hjn : j < l.length := by omega
          have E := Lib.hid (show Pl.dictAt l k = decide (Pl.cmpI (l[j]'hjn).1 l[k].1 < 0) by subst hj; exact Pl.dict_next hlt hq)
          obtain ⟨b2, off2, u2, hab, d1, d2, d3⟩ := ent_at (HE.out.keep HB.out) j hjn
          cases hab
          have hw1 : IntKind.i64.wrap ((k : Int) - 1) = (j : Int) := (IntWalk.i64_in _ (by omega)).trans (by omega)
          have hj0 : (0 : Int) ≤ (j : Int) := by omega
          have hjl : (j : Int) < (l.length : Int) := by omega
          have hkz : (0 : Int) < (k : Int) := by omega
          have hkn : 0 < k := by omega
          clear hj
          have hqf := (HF.out _ (List.getElem_mem hjn)).1
          obtain ⟨ap, cp, rfl, _, _⟩ := rows_form d3
          have HRp := Lib.hid d3
          clear d2 d3
          generalize hp : l[k] = p at c1 c2 hf HR hq
          obtain ⟨pl, pt⟩ := p
          replace hq : Pl.entOk (pl, pt) = true := hq
          replace hf : pl.length ≤ 1048576 ∧ pt.size ≤ 1048576 := hf
          replace HR : Hid (Rows wr (.slice au pl.length cu) pl.length 1 (ints pl)) := HR
          replace c1 : wr.drew.cell? ⟨b, off + k * 2, none⟩ = some (.slice au pl.length cu) := c1
          replace c2 : wr.drew.cell? ⟨b, off + k * 2 + 1, none⟩ = some (.string pt) := c2
          have HV := Lib.hid (fun W h1 => l6Entry_any (.slice au pl.length cu) pl pt W h1 hf.1 hf.2)
          rw [hq] at HV
          have HR1 := Lib.hid (show Rows wr.drew (.slice au pl.length cu) pl.length 1 (ints pl) from Rows.drew HR.out 1)
          rw [hp] at E
          clear hp
          generalize l[j]'hjn = q at d1 HRp E hqf
          obtain ⟨ql, qt⟩ := q
          replace HRp : Hid (Rows wr (.slice ap ql.length cp) ql.length 1 (ints ql)) := HRp
          replace E : Hid (Pl.dictAt l k = decide (Pl.cmpI ql pl < 0)) := E
          replace d1 : wr.drew.cell? ⟨b, off + j * 2, none⟩ = some (.slice ap ql.length cp) := d1
          replace hqf : ql.length ≤ 1048576 := hqf
          have HRp1 := Lib.hid (show Rows wr.drew (.slice ap ql.length cp) ql.length 1 (ints ql) from Rows.drew HRp.out 1)
          have HC2 := Lib.hid (fun W h1 h2 => l4Compare_any (.slice ap ql.length cp) (.slice au pl.length cu) ql pl W h1 h2 hqf)
          generalize Pl.cmpI ql pl = cm at HC2 E
          by_cases hc : cm < 0
          · have E2 := Lib.hid (E.out.trans (decide_eq_true hc))
            have hc' : ¬ (0 : Int) ≤ cm := by omega
            go_upto_region 6 with fail
            go_region_held3 (fun w' => w'.cell? ⟨w.heap.size, 0, none⟩ = some (.slice (some ⟨b, off, none⟩) l.length cap) ∧ w'.cell? ⟨b, off + k * 2, none⟩ = some (.slice au pl.length cu) ∧ w'.cell? ⟨b, off + k * 2 + 1, none⟩ = some (.string pt) ∧ w'.cell? ⟨b, off + j * 2, none⟩ = some (.slice ap ql.length cp)) (first | exact ⟨cg0, cg1, cg2, cg3⟩ | exact ⟨cf0, cf1, cf2, cf3⟩ | exact ⟨q0, c1, c2, d1⟩) (first | (go_at_call 94; (with_reducible refine (HV.out _ HR1.out).mono ?_); rintro e w1 ⟨rfl, hb1⟩; have HB2 := Lib.hid ((below_drew1 HB.out).trans (hb1.mono HB.out.size)); have cf0 := keepcT hb1 q0; have cf1 := keepcT hb1 c1; have cf2 := keepcT hb1 c2; have cf3 := keepcT hb1 d1; have HR2 := Lib.hid (HR1.out.keep hb1); have HRp2 := Lib.hid (HRp1.out.keep hb1); clear hb1) | (go_at_call 95; (with_reducible refine (HC2.out _ HRp2.out HR2.out).mono ?_); rintro e w2 ⟨rfl, hd⟩; have hb2 := hd.below; have HB3 := Lib.hid (HB2.out.trans (hb2.mono HB2.out.size)); have cg0 := keepcT hb2 cf0; have cg1 := keepcT hb2 cf1; have cg2 := keepcT hb2 cf2; have cg3 := keepcT hb2 cf3; clear hb2 hd))
            go_wp2_with fail
            go_roundw
            case rel => exact ⟨k + 1, by omega, by go_num, Lib.hid (Pl.allTo_yes HA.out E2.out), HB3.out⟩
            case measure => simp [intOf]; omega
          · have E2 := Lib.hid (Pl.dict_no hlt (E.out.trans (decide_eq_false hc)))
            have hc' : (0 : Int) ≤ cm := by omega
            go_upto_region 6 with fail
            go_region_held3 (fun w' => w'.cell? ⟨w.heap.size, 0, none⟩ = some (.slice (some ⟨b, off, none⟩) l.length cap) ∧ w'.cell? ⟨b, off + k * 2, none⟩ = some (.slice au pl.length cu) ∧ w'.cell? ⟨b, off + k * 2 + 1, none⟩ = some (.string pt) ∧ w'.cell? ⟨b, off + j * 2, none⟩ = some (.slice ap ql.length cp)) (first | exact ⟨cg0, cg1, cg2, cg3⟩ | exact ⟨cf0, cf1, cf2, cf3⟩ | exact ⟨q0, c1, c2, d1⟩) (first | (go_at_call 94; (with_reducible refine (HV.out _ HR1.out).mono ?_); rintro e w1 ⟨rfl, hb1⟩; have HB2 := Lib.hid ((below_drew1 HB.out).trans (hb1.mono HB.out.size)); have cf0 := keepcT hb1 q0; have cf1 := keepcT hb1 c1; have cf2 := keepcT hb1 c2; have cf3 := keepcT hb1 d1; have HR2 := Lib.hid (HR1.out.keep hb1); have HRp2 := Lib.hid (HRp1.out.keep hb1); clear hb1) | (go_at_call 95; (with_reducible refine (HC2.out _ HRp2.out HR2.out).mono ?_); rintro e w2 ⟨rfl, hd⟩; have hb2 := hd.below; have HB3 := Lib.hid (HB2.out.trans (hb2.mono HB2.out.size)); have cg0 := keepcT hb2 cf0; have cg1 := keepcT hb2 cf1; have cg2 := keepcT hb2 cf2; have cg3 := keepcT hb2 cf3; clear hb2 hd))
            go_wp2_with fail
            go_ret
            exact ⟨ret_bool E2.out.symm, HB0.out.trans (HB3.out.mono HW.out)⟩
    · obtain rfl : k = l.length := by omega
      have E := Lib.hid (show Pl.dictOk l = true by unfold Pl.dictOk; rw [HA.out, decide_eq_true (by omega)]; rfl)
      go_wp2
      go_ret
      exact ⟨ret_bool E.out.symm, HB0.out.trans (HB.out.mono HW.out)⟩

end Go.Proofs.YtfjdbchffhbidaaDoor
