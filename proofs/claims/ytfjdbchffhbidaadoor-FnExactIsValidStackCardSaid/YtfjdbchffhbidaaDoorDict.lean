/-
  CONTRACT: IsValidDictionary of the program.
-/
import Derived.Test.YtfjdbchffhbidaaDoorDict0
import Derived.Test.YtfjdbchffhbidaaDoorSkip
namespace Go.Proofs.YtfjdbchffhbidaaDoor
open Go.RowKit
set_option linter.unusedSimpArgs false

set_option maxRecDepth 20000 in
set_option maxHeartbeats 3200000 in
theorem IsValidDictionary_any (v : Value) (l : List Ent) (w : World) (hr : Ents w v l) (hl : l.length ≤ 1048576) (hs : ∀ p ∈ l, p.1.length ≤ 1048576 ∧ p.2.size ≤ 1048576) (hm : ∃ m, w.cell? ⟨0, 0, none⟩ = some (.int .i64 m)) :
    Calls Tryd.prog 63 #[.agg #[v]] w fun e w' => e = .returned (.bool (Pl.dictOk l)) ∧ Below w.heap.size w w' := by
  have HB0 := Lib.hid (Joins.below_alloc1 w (.cells #[v] 49))
  have HM0 := Lib.hid (max_keepT hm HB0.out)
  have HE := Lib.hid (hr.keep HB0.out)
  have HF := Lib.hid hs
  obtain ⟨a, cap, rfl, _, _⟩ := ent_form hr
  have HC := Lib.hid (show (w.alloc (.cells #[.slice a l.length cap] 49)).cell? ⟨w.heap.size, 0, none⟩ = some (.slice a l.length cap) by simp [go_sem])
  clear hr hm hs
  go_enter Tryd.func63, Tryd.ntmps63
  go_upto_region 2 with fail
  obtain ⟨W0, hW0⟩ : ∃ W0, W0 = w.alloc (.cells #[.slice a l.length cap] 49) := ⟨_, rfl⟩
  rw [← hW0] at HB0 HM0 HE HC ⊢
  have HW := Lib.hid (show w.heap.size ≤ W0.heap.size from HB0.out.size)
  clear hW0
  go_loopw [8] (fun i wr => ∃ k : Nat, k ≤ l.length ∧ i = .int .i64 k ∧ Hid (Pl.allTo (Pl.dictAt l) k = true) ∧ Below W0.heap.size W0 wr) (fun i _ => l.length - (intOf i).toNat)
  case atStart => exact ⟨0, Nat.zero_le _, rfl, Lib.hid rfl, Below.refl _ _⟩
  case round =>
    obtain ⟨k, hk, rfl, HA, hb⟩ := hrel
    have HB := Lib.hid hb; clear hb
    have q0 := keepcT HB.out HC.out
    by_cases hlt : k < l.length
    · obtain ⟨b, off, u, rfl, c1, c2, c3⟩ := ent_at (HE.out.keep HB.out) k hlt
      have hki : (k : Int) < (l.length : Int) := by omega
      have hf := HF.out _ (List.getElem_mem hlt)
      obtain ⟨au, cu, rfl, _, _⟩ := rows_form c3
      have HR := Lib.hid c3
      have HMr := Lib.hid (max_keepT HM0.out HB.out)
      clear c3
      cases hq : Pl.entOk l[k]
      · have E := Lib.hid (Pl.dict_no hlt (Pl.dict_none hlt hq))
        generalize hp : l[k] = p at c1 c2 hf HR hq
        obtain ⟨pl, pt⟩ := p
        replace hq : Pl.entOk (pl, pt) = false := hq
        replace hf : pl.length ≤ 1048576 ∧ pt.size ≤ 1048576 := hf
        replace HR : Hid (Rows wr (.slice au pl.length cu) pl.length 1 (ints pl)) := HR
        have HV := Lib.hid (fun W h1 h2 => IsValidEntry_any (.slice au pl.length cu) pl pt W h1 hf.1 hf.2 h2)
        rw [hq] at HV
        have HB1 := Lib.hid (below_on3 HB.out (Joins.below_alloc1 wr (.cells #[.slice au pl.length cu, .string pt] 132)))
        have HR1 := Lib.hid (show Rows (wr.alloc (.cells #[.slice au pl.length cu, .string pt] 132)).drew (.slice au pl.length cu) pl.length 1 (ints pl) from Rows.drew (HR.out.keep (Joins.below_alloc1 wr (.cells #[.slice au pl.length cu, .string pt] 132))) 1)
        have HM1 := Lib.hid (show ∃ m, (wr.alloc (.cells #[.slice au pl.length cu, .string pt] 132)).drew.cell? ⟨0, 0, none⟩ = some (.int .i64 m) from (max_keepT HMr.out (Joins.below_alloc1 wr (.cells #[.slice au pl.length cu, .string pt] 132)) : ∃ m, (wr.alloc (.cells #[.slice au pl.length cu, .string pt] 132)).cell? ⟨0, 0, none⟩ = some (.int .i64 m)))
        have ce1 : (wr.alloc (.cells #[.slice au pl.length cu, .string pt] 132)).drew.cell? ⟨wr.heap.size, 0, none⟩ = some (.slice au pl.length cu) := by simp [go_sem]
        have ce2 : (wr.alloc (.cells #[.slice au pl.length cu, .string pt] 132)).drew.cell? ⟨wr.heap.size, 1, none⟩ = some (.string pt) := by simp [go_sem]
        clear HA hp
        go_upto_region 4 with fail
        refine wp_region_held_drew (S := fun w' => w'.cell? ⟨wr.heap.size, 0, none⟩ = some (.slice au pl.length cu) ∧ w'.cell? ⟨wr.heap.size, 1, none⟩ = some (.string pt)) (by kernel_rfl) ⟨ce1, ce2⟩ (fun hHeld => ?_)
        refine takeH 0 13 (.agg #[.slice au pl.length cu, .string pt]) rfl (by kernel_rfl) (by kernel_rfl) (by kernel_rfl) (by kernel_rfl) (fun _ _ _ _ h => h) hHeld (Or.inl ⟨rfl, fun w' hw => by obtain ⟨hw1, hw2⟩ := hw; go_simp⟩) ?_
        (try simp only [Act.put, List.foldl_cons, List.foldl_nil, List.setIfInBounds_toArray, List.set_cons_zero, List.set_cons_succ])
        refine wpAnyH_ready (rs := [1]) (by kernel_rfl) (by simp) ?_
        refine AllReadyH.cons (o := _) rfl (fun K hK => ?_) AllReadyH.nil
        go_simp
        (go_at_call 98; (with_reducible refine (HV.out _ HR1.out HM1.out).mono ?_); rintro e w1 ⟨rfl, hb1⟩; have HB2 := Lib.hid ((below_drew1 HB1.out).trans (hb1.mono HB1.out.size)); have cf1 := keepcT hb1 ce1; have cf2 := keepcT hb1 ce2; clear hb1)
        go_wp2_with fail
        refine hK.out _ _ ⟨cf1, cf2⟩ (fun hHeld2 => ?_)
        clear hK K hHeld
        have hHeld := hHeld2
        clear hHeld2
        (try simp only [Act.put, List.foldl_cons, List.foldl_nil, List.setIfInBounds_toArray, List.set_cons_zero, List.set_cons_succ])
        refine takeH 2 15 (.bool true) rfl (by kernel_rfl) (by kernel_rfl) (by kernel_rfl) (by kernel_rfl) (fun _ _ _ _ h => h) hHeld (Or.inl ⟨rfl, fun w _ => by first | rfl | (go_simp; done) | (go_simp; exact HK0.out)⟩) ?_
        (try simp only [Act.put, List.foldl_cons, List.foldl_nil, List.setIfInBounds_toArray, List.set_cons_zero, List.set_cons_succ])
        refine takeH 3 16 (.bool true) rfl (by kernel_rfl) (by kernel_rfl) (by kernel_rfl) (by kernel_rfl) (fun _ _ _ _ h => h) hHeld (Or.inl ⟨rfl, fun w _ => by first | rfl | (go_simp; done) | (go_simp; exact HK0.out)⟩) ?_
        (try simp only [Act.put, List.foldl_cons, List.foldl_nil, List.setIfInBounds_toArray, List.set_cons_zero, List.set_cons_succ])
        refine skipsH (by kernel_rfl) [(4, 17), (5, 18), (6, 19), (7, 20), (8, 21), (9, 22), (10, 23), (11, 24), (12, 25), (13, 26), (14, 27), (15, 28), (16, 29), (17, 30), (18, 31)] _ _ _ _ (by kernel_rfl) (fun _ _ _ _ h => h) hHeld ?_
        (try simp only [Act.put, List.foldl_cons, List.foldl_nil, List.setIfInBounds_toArray, List.set_cons_zero, List.set_cons_succ])
        refine takeH 19 32 (.bool true) rfl (by kernel_rfl) (by kernel_rfl) (by kernel_rfl) (by kernel_rfl) (fun _ _ _ _ h => h) hHeld (Or.inl ⟨rfl, fun w _ => by first | rfl | (go_simp; done) | (go_simp; exact HK0.out)⟩) ?_
        (try simp only [Act.put, List.foldl_cons, List.foldl_nil, List.setIfInBounds_toArray, List.set_cons_zero, List.set_cons_succ])
        refine wpAnyH_done (by kernel_rfl) ?_ _
        go_wp2_with fail
        go_ret
        exact ⟨ret_bool E.out.symm, HB0.out.trans (HB2.out.mono HW.out)⟩
      · by_cases hk0 : k = 0
        · have E := Lib.hid (show Pl.dictAt l k = true by subst hk0; exact Pl.dict_zero hlt hq)
          have hkz : ¬ (0 : Int) < (k : Int) := by omega
          have HK0 := Lib.hid hk0
          clear hk0
          generalize hp : l[k] = p at c1 c2 hf HR hq
          obtain ⟨pl, pt⟩ := p
          replace hq : Pl.entOk (pl, pt) = true := hq
          replace hf : pl.length ≤ 1048576 ∧ pt.size ≤ 1048576 := hf
          replace HR : Hid (Rows wr (.slice au pl.length cu) pl.length 1 (ints pl)) := HR
          have HV := Lib.hid (fun W h1 h2 => IsValidEntry_any (.slice au pl.length cu) pl pt W h1 hf.1 hf.2 h2)
          rw [hq] at HV
          have HB1 := Lib.hid (below_on3 HB.out (Joins.below_alloc1 wr (.cells #[.slice au pl.length cu, .string pt] 132)))
          have HR1 := Lib.hid (show Rows (wr.alloc (.cells #[.slice au pl.length cu, .string pt] 132)).drew (.slice au pl.length cu) pl.length 1 (ints pl) from Rows.drew (HR.out.keep (Joins.below_alloc1 wr (.cells #[.slice au pl.length cu, .string pt] 132))) 1)
          have HM1 := Lib.hid (show ∃ m, (wr.alloc (.cells #[.slice au pl.length cu, .string pt] 132)).drew.cell? ⟨0, 0, none⟩ = some (.int .i64 m) from (max_keepT HMr.out (Joins.below_alloc1 wr (.cells #[.slice au pl.length cu, .string pt] 132)) : ∃ m, (wr.alloc (.cells #[.slice au pl.length cu, .string pt] 132)).cell? ⟨0, 0, none⟩ = some (.int .i64 m)))
          have ce1 : (wr.alloc (.cells #[.slice au pl.length cu, .string pt] 132)).drew.cell? ⟨wr.heap.size, 0, none⟩ = some (.slice au pl.length cu) := by simp [go_sem]
          have ce2 : (wr.alloc (.cells #[.slice au pl.length cu, .string pt] 132)).drew.cell? ⟨wr.heap.size, 1, none⟩ = some (.string pt) := by simp [go_sem]
          clear hp
          go_upto_region 4 with fail
          refine wp_region_held_drew (S := fun w' => w'.cell? ⟨wr.heap.size, 0, none⟩ = some (.slice au pl.length cu) ∧ w'.cell? ⟨wr.heap.size, 1, none⟩ = some (.string pt)) (by kernel_rfl) ⟨ce1, ce2⟩ (fun hHeld => ?_)
          refine takeH 0 13 (.agg #[.slice au pl.length cu, .string pt]) rfl (by kernel_rfl) (by kernel_rfl) (by kernel_rfl) (by kernel_rfl) (fun _ _ _ _ h => h) hHeld (Or.inl ⟨rfl, fun w' hw => by obtain ⟨hw1, hw2⟩ := hw; go_simp⟩) ?_
          (try simp only [Act.put, List.foldl_cons, List.foldl_nil, List.setIfInBounds_toArray, List.set_cons_zero, List.set_cons_succ])
          refine wpAnyH_ready (rs := [1]) (by kernel_rfl) (by simp) ?_
          refine AllReadyH.cons (o := _) rfl (fun K hK => ?_) AllReadyH.nil
          go_simp
          (go_at_call 98; (with_reducible refine (HV.out _ HR1.out HM1.out).mono ?_); rintro e w1 ⟨rfl, hb1⟩; have HB2 := Lib.hid ((below_drew1 HB1.out).trans (hb1.mono HB1.out.size)); have cf1 := keepcT hb1 ce1; have cf2 := keepcT hb1 ce2; clear hb1)
          go_wp2_with fail
          refine hK.out _ _ ⟨cf1, cf2⟩ (fun hHeld2 => ?_)
          clear hK K hHeld
          have hHeld := hHeld2
          clear hHeld2
          (try simp only [Act.put, List.foldl_cons, List.foldl_nil, List.setIfInBounds_toArray, List.set_cons_zero, List.set_cons_succ])
          refine takeH 2 15 (.bool false) rfl (by kernel_rfl) (by kernel_rfl) (by kernel_rfl) (by kernel_rfl) (fun _ _ _ _ h => h) hHeld (Or.inl ⟨rfl, fun w _ => by first | rfl | (go_simp; done) | (go_simp; exact HK0.out)⟩) ?_
          (try simp only [Act.put, List.foldl_cons, List.foldl_nil, List.setIfInBounds_toArray, List.set_cons_zero, List.set_cons_succ])
          refine takeH 3 16 (.bool false) rfl (by kernel_rfl) (by kernel_rfl) (by kernel_rfl) (by kernel_rfl) (fun _ _ _ _ h => h) hHeld (Or.inl ⟨rfl, fun w _ => by first | rfl | (go_simp; done) | (go_simp; exact HK0.out)⟩) ?_
          (try simp only [Act.put, List.foldl_cons, List.foldl_nil, List.setIfInBounds_toArray, List.set_cons_zero, List.set_cons_succ])
          refine takeH 4 17 (.int .i64 (k : Int)) rfl (by kernel_rfl) (by kernel_rfl) (by kernel_rfl) (by kernel_rfl) (fun _ _ _ _ h => h) hHeld (Or.inl ⟨rfl, fun w _ => by first | rfl | (go_simp; done) | (go_simp; exact HK0.out)⟩) ?_
          (try simp only [Act.put, List.foldl_cons, List.foldl_nil, List.setIfInBounds_toArray, List.set_cons_zero, List.set_cons_succ])
          refine takeH 5 18 (.bool false) rfl (by kernel_rfl) (by kernel_rfl) (by kernel_rfl) (by kernel_rfl) (fun _ _ _ _ h => h) hHeld (Or.inl ⟨rfl, fun w _ => by first | rfl | (go_simp; done) | (go_simp; exact HK0.out)⟩) ?_
          (try simp only [Act.put, List.foldl_cons, List.foldl_nil, List.setIfInBounds_toArray, List.set_cons_zero, List.set_cons_succ])
          refine takeH 6 19 (.bool false) rfl (by kernel_rfl) (by kernel_rfl) (by kernel_rfl) (by kernel_rfl) (fun _ _ _ _ h => h) hHeld (Or.inl ⟨rfl, fun w _ => by first | rfl | (go_simp; done) | (go_simp; exact HK0.out)⟩) ?_
          (try simp only [Act.put, List.foldl_cons, List.foldl_nil, List.setIfInBounds_toArray, List.set_cons_zero, List.set_cons_succ])
          refine skipsH (by kernel_rfl) [(7, 20), (8, 21), (9, 22), (10, 23), (11, 24), (12, 25), (13, 26), (14, 27), (15, 28), (16, 29), (17, 30)] _ _ _ _ (by kernel_rfl) (fun _ _ _ _ h => h) hHeld ?_
          (try simp only [Act.put, List.foldl_cons, List.foldl_nil, List.setIfInBounds_toArray, List.set_cons_zero, List.set_cons_succ])
          refine takeH 18 31 (.bool false) rfl (by kernel_rfl) (by kernel_rfl) (by kernel_rfl) (by kernel_rfl) (fun _ _ _ _ h => h) hHeld (Or.inl ⟨rfl, fun w _ => by first | rfl | (go_simp; done) | (go_simp; exact HK0.out)⟩) ?_
          (try simp only [Act.put, List.foldl_cons, List.foldl_nil, List.setIfInBounds_toArray, List.set_cons_zero, List.set_cons_succ])
          refine takeH 19 32 (.bool false) rfl (by kernel_rfl) (by kernel_rfl) (by kernel_rfl) (by kernel_rfl) (fun _ _ _ _ h => h) hHeld (Or.inl ⟨rfl, fun w _ => by first | rfl | (go_simp; done) | (go_simp; exact HK0.out)⟩) ?_
          (try simp only [Act.put, List.foldl_cons, List.foldl_nil, List.setIfInBounds_toArray, List.set_cons_zero, List.set_cons_succ])
          refine wpAnyH_done (by kernel_rfl) ?_ _
          go_wp2_with fail
          go_roundw
          case rel => exact ⟨k + 1, by omega, by go_num, Lib.hid (Pl.allTo_yes HA.out E.out), HB2.out⟩
          case measure => simp [intOf]; omega
        · obtain ⟨j, hj⟩ : ∃ j, k = j + 1 := ⟨k - 1, by omega⟩
          have hjn : j < l.length := by omega
          have E := Lib.hid (show Pl.dictAt l k = decide (Pl.cmpI (l[j]'hjn).1 l[k].1 < 0) by subst hj; exact Pl.dict_next hlt hq)
          obtain ⟨b2, off2, u2, hab, d1, d2, d3⟩ := ent_at (HE.out.keep HB.out) j hjn
          cases hab
          have hw1 : IntKind.i64.wrap ((k : Int) - 1) = (j : Int) := (IntWalk.i64_in _ (by omega)).trans (by omega)
          have hj0 : (0 : Int) ≤ (j : Int) := by omega
          have hjl : (j : Int) < (l.length : Int) := by omega
          have hkz : (0 : Int) < (k : Int) := by omega
          have hkn : 0 < k := by omega
          clear hj
          have hqf := (HF.out _ (List.getElem_mem hjn)).1
          obtain ⟨ap, cp, rfl, _, _⟩ := rows_form d3
          have HRp := Lib.hid d3
          clear d2 d3
          generalize hp : l[k] = p at c1 c2 hf HR hq
          obtain ⟨pl, pt⟩ := p
          replace hq : Pl.entOk (pl, pt) = true := hq
          replace hf : pl.length ≤ 1048576 ∧ pt.size ≤ 1048576 := hf
          replace HR : Hid (Rows wr (.slice au pl.length cu) pl.length 1 (ints pl)) := HR
          have HV := Lib.hid (fun W h1 h2 => IsValidEntry_any (.slice au pl.length cu) pl pt W h1 hf.1 hf.2 h2)
          rw [hq] at HV
          have HB1 := Lib.hid (below_on3 HB.out (Joins.below_alloc1 wr (.cells #[.slice au pl.length cu, .string pt] 132)))
          have HR1 := Lib.hid (show Rows (wr.alloc (.cells #[.slice au pl.length cu, .string pt] 132)).drew (.slice au pl.length cu) pl.length 1 (ints pl) from Rows.drew (HR.out.keep (Joins.below_alloc1 wr (.cells #[.slice au pl.length cu, .string pt] 132))) 1)
          have HM1 := Lib.hid (show ∃ m, (wr.alloc (.cells #[.slice au pl.length cu, .string pt] 132)).drew.cell? ⟨0, 0, none⟩ = some (.int .i64 m) from (max_keepT HMr.out (Joins.below_alloc1 wr (.cells #[.slice au pl.length cu, .string pt] 132)) : ∃ m, (wr.alloc (.cells #[.slice au pl.length cu, .string pt] 132)).cell? ⟨0, 0, none⟩ = some (.int .i64 m)))
          have ce1 : (wr.alloc (.cells #[.slice au pl.length cu, .string pt] 132)).drew.cell? ⟨wr.heap.size, 0, none⟩ = some (.slice au pl.length cu) := by simp [go_sem]
          have ce2 : (wr.alloc (.cells #[.slice au pl.length cu, .string pt] 132)).drew.cell? ⟨wr.heap.size, 1, none⟩ = some (.string pt) := by simp [go_sem]
          rw [hp] at E
          clear hp
          generalize l[j]'hjn = q at d1 HRp E hqf
          obtain ⟨ql, qt⟩ := q
          replace HRp : Hid (Rows wr (.slice ap ql.length cp) ql.length 1 (ints ql)) := HRp
          replace E : Hid (Pl.dictAt l k = decide (Pl.cmpI ql pl < 0)) := E
          replace d1 : wr.cell? ⟨b, off + j * 2, none⟩ = some (.slice ap ql.length cp) := d1
          replace hqf : ql.length ≤ 1048576 := hqf
          have HRp1 := Lib.hid (show Rows (wr.alloc (.cells #[.slice au pl.length cu, .string pt] 132)).drew (.slice ap ql.length cp) ql.length 1 (ints ql) from Rows.drew (HRp.out.keep (Joins.below_alloc1 wr (.cells #[.slice au pl.length cu, .string pt] 132))) 1)
          have HC2 := Lib.hid (fun W h1 h2 => Compare_any (.slice ap ql.length cp) (.slice au pl.length cu) ql pl W h1 h2 hqf)
          have cd1 : (wr.alloc (.cells #[.slice au pl.length cu, .string pt] 132)).drew.cell? ⟨b, off + j * 2, none⟩ = some (.slice ap ql.length cp) := keepcT (Joins.below_alloc1 wr (.cells #[.slice au pl.length cu, .string pt] 132)) d1
          have ct1 : (wr.alloc (.cells #[.slice au pl.length cu, .string pt] 132)).drew.cell? ⟨w.heap.size, 0, none⟩ = some (.slice (some ⟨b, off, none⟩) l.length cap) := keepcT (Joins.below_alloc1 wr (.cells #[.slice au pl.length cu, .string pt] 132)) q0
          generalize Pl.cmpI ql pl = cm at HC2 E
          by_cases hc : cm < 0
          · have E2 := Lib.hid (E.out.trans (decide_eq_true hc))
            have hc' : ¬ (0 : Int) ≤ cm := by omega
            go_upto_region 4 with fail
            go_region_held3 (fun w' => w'.cell? ⟨wr.heap.size, 0, none⟩ = some (.slice au pl.length cu) ∧ w'.cell? ⟨wr.heap.size, 1, none⟩ = some (.string pt) ∧ w'.cell? ⟨b, off + j * 2, none⟩ = some (.slice ap ql.length cp) ∧ w'.cell? ⟨w.heap.size, 0, none⟩ = some (.slice (some ⟨b, off, none⟩) l.length cap)) (first | exact ⟨cf1, cf2, cf3, cf4⟩ | exact ⟨ce1, ce2, cd1, ct1⟩) (first | (go_at_call 98; (with_reducible refine (HV.out _ HR1.out HM1.out).mono ?_); rintro e w1 ⟨rfl, hb1⟩; have HB2 := Lib.hid ((below_drew1 HB1.out).trans (hb1.mono HB1.out.size)); have cf1 := keepcT hb1 ce1; have cf2 := keepcT hb1 ce2; have cf3 := keepcT hb1 cd1; have cf4 := keepcT hb1 ct1; have HR2 := Lib.hid (HR1.out.keep hb1); have HRp2 := Lib.hid (HRp1.out.keep hb1); clear hb1) | (go_at_call 99; (with_reducible refine (HC2.out _ HRp2.out HR2.out).mono ?_); rintro e w' ⟨rfl, rfl⟩; have cg := cf1))
            go_wp2_with fail
            go_roundw
            case rel => exact ⟨k + 1, by omega, by go_num, Lib.hid (Pl.allTo_yes HA.out E2.out), HB2.out⟩
            case measure => simp [intOf]; omega
          · have E2 := Lib.hid (Pl.dict_no hlt (E.out.trans (decide_eq_false hc)))
            have hc' : (0 : Int) ≤ cm := by omega
            go_upto_region 4 with fail
            go_region_held3 (fun w' => w'.cell? ⟨wr.heap.size, 0, none⟩ = some (.slice au pl.length cu) ∧ w'.cell? ⟨wr.heap.size, 1, none⟩ = some (.string pt) ∧ w'.cell? ⟨b, off + j * 2, none⟩ = some (.slice ap ql.length cp) ∧ w'.cell? ⟨w.heap.size, 0, none⟩ = some (.slice (some ⟨b, off, none⟩) l.length cap)) (first | exact ⟨cf1, cf2, cf3, cf4⟩ | exact ⟨ce1, ce2, cd1, ct1⟩) (first | (go_at_call 98; (with_reducible refine (HV.out _ HR1.out HM1.out).mono ?_); rintro e w1 ⟨rfl, hb1⟩; have HB2 := Lib.hid ((below_drew1 HB1.out).trans (hb1.mono HB1.out.size)); have cf1 := keepcT hb1 ce1; have cf2 := keepcT hb1 ce2; have cf3 := keepcT hb1 cd1; have cf4 := keepcT hb1 ct1; have HR2 := Lib.hid (HR1.out.keep hb1); have HRp2 := Lib.hid (HRp1.out.keep hb1); clear hb1) | (go_at_call 99; (with_reducible refine (HC2.out _ HRp2.out HR2.out).mono ?_); rintro e w' ⟨rfl, rfl⟩; have cg := cf1))
            go_wp2_with fail
            go_ret
            exact ⟨ret_bool E2.out.symm, HB0.out.trans (HB2.out.mono HW.out)⟩
    · obtain rfl : k = l.length := by omega
      by_cases h40 : l.length ≤ 40
      · have E := Lib.hid (show Pl.dictOk l = true by unfold Pl.dictOk; rw [HA.out, decide_eq_true h40]; rfl)
        have h40' : (l.length : Int) ≤ 40 := by omega
        go_wp2
        go_ret
        exact ⟨ret_bool E.out.symm, HB0.out.trans (HB.out.mono HW.out)⟩
      · have E := Lib.hid (show Pl.dictOk l = false from Pl.dict_long (by omega))
        have h40' : ¬ (l.length : Int) ≤ 40 := by omega
        go_wp2
        go_ret
        exact ⟨ret_bool E.out.symm, HB0.out.trans (HB.out.mono HW.out)⟩

end Go.Proofs.YtfjdbchffhbidaaDoor
