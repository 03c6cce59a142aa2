/-
  CONTRACT: IsValidDictionary of the program.
  CONTRACT: the reference's look at a dictionary. (Printed by gengood.py.)
  CONTRACTS: Lookup, of the program and of the reference.
  PLAIN: the longest match of a dictionary at a place, and a part of a row of integers.
  CONTRACT: the reference's longest match.
  CONTRACT: the program's longest match.
  CONTRACTS: MatchAt, of the program and of the reference: what is asked ahead of the match.
-/
import Derived.Test.YtdidgaibgkdjoaaGreatDoorBasC
import Derived.Test.YtdidgaibgkdjoaaGreatDoorBasA
import Derived.Test.YtdidgaibgkdjoaaGreatDoorBasB
namespace Go.Proofs.YtdidgaibgkdjoaaGreatDoor
open Go.RowKit
set_option linter.unusedSimpArgs false

set_option maxRecDepth 20000 in
set_option maxHeartbeats 3200000 in
theorem IsValidDictionary_any (v : Value) (l : List Ent) (w : World) (hr : Ents w v l) (hl : l.length ≤ 1048576) (hs : ∀ p ∈ l, p.1.length ≤ 1048576 ∧ p.2.size ≤ 1048576) (hm : ∃ m, w.cell? ⟨0, 0, none⟩ = some (.int .i64 m)) :
    Calls Tryz.prog 47 #[.agg #[v]] w fun e w' => e = .returned (.bool (Pl.dictOk l)) ∧ Below w.heap.size w w' := by
  have HB0 := Lib.hid (Joins.below_alloc1 w (.cells #[v] 26))
  have HM0 := Lib.hid (max_keepT hm HB0.out)
  have HE := Lib.hid (hr.keep HB0.out)
  have HF := Lib.hid hs
  obtain ⟨a, cap, rfl, _, _⟩ := ent_form hr
  have HC := Lib.hid (show (w.alloc (.cells #[.slice a l.length cap] 26)).cell? ⟨w.heap.size, 0, none⟩ = some (.slice a l.length cap) by simp [go_sem])
  clear hr hm hs
  go_enter Tryz.func47, Tryz.ntmps47
  go_upto_region 2 with fail
  obtain ⟨W0, hW0⟩ : ∃ W0, W0 = w.alloc (.cells #[.slice a l.length cap] 26) := ⟨_, rfl⟩
  rw [← hW0] at HB0 HM0 HE HC ⊢
  have HW := Lib.hid (show w.heap.size ≤ W0.heap.size from HB0.out.size)
  clear hW0
  go_loopw [8] (fun i wr => ∃ k : Nat, k ≤ l.length ∧ i = .int .i64 k ∧ Hid (Pl.allTo (Pl.dictAt l) k = true) ∧ Below W0.heap.size W0 wr) (fun i _ => l.length - (intOf i).toNat)
  case atStart => exact ⟨0, Nat.zero_le _, rfl, Lib.hid rfl, Below.refl _ _⟩
  case round =>
    obtain ⟨k, hk, rfl, HA, hb⟩ := hrel
    have HB := Lib.hid hb; clear hb
    have q0 := keepcT HB.out HC.out
    by_cases hlt : k < l.length
    · obtain ⟨b, off, u, rfl, c1, c2, c3⟩ := ent_at (HE.out.keep HB.out) k hlt
      have hki : (k : Int) < (l.length : Int) := by omega
      have hf := HF.out _ (List.getElem_mem hlt)
      obtain ⟨au, cu, rfl, _, _⟩ := rows_form c3
      have HR := Lib.hid c3
      have HMr := Lib.hid (max_keepT HM0.out HB.out)
      clear c3
      cases hq : Pl.entOk l[k]
      · have E := Lib.hid (Pl.dict_no hlt (Pl.dict_none hlt hq))
        generalize hp : l[k] = p at c1 c2 hf HR hq
        obtain ⟨pl, pt⟩ := p
        replace hq : Pl.entOk (pl, pt) = false := hq
        replace hf : pl.length ≤ 1048576 ∧ pt.size ≤ 1048576 := hf
        replace HR : Hid (Rows wr (.slice au pl.length cu) pl.length 1 (ints pl)) := HR
        have HV := Lib.hid (fun W h1 h2 => IsValidEntry_any (.slice au pl.length cu) pl pt W h1 hf.1 hf.2 h2)
        rw [hq] at HV
        have HB1 := Lib.hid (below_on3 HB.out (Joins.below_alloc1 wr (.cells #[.slice au pl.length cu, .string pt] 39)))
        have HR1 := Lib.hid (show Rows (wr.alloc (.cells #[.slice au pl.length cu, .string pt] 39)).drew (.slice au pl.length cu) pl.length 1 (ints pl) from Rows.drew (HR.out.keep (Joins.below_alloc1 wr (.cells #[.slice au pl.length cu, .string pt] 39))) 1)
        have HM1 := Lib.hid (show ∃ m, (wr.alloc (.cells #[.slice au pl.length cu, .string pt] 39)).drew.cell? ⟨0, 0, none⟩ = some (.int .i64 m) from (max_keepT HMr.out (Joins.below_alloc1 wr (.cells #[.slice au pl.length cu, .string pt] 39)) : ∃ m, (wr.alloc (.cells #[.slice au pl.length cu, .string pt] 39)).cell? ⟨0, 0, none⟩ = some (.int .i64 m)))
        have ce1 : (wr.alloc (.cells #[.slice au pl.length cu, .string pt] 39)).drew.cell? ⟨wr.heap.size, 0, none⟩ = some (.slice au pl.length cu) := by simp [go_sem]
        have ce2 : (wr.alloc (.cells #[.slice au pl.length cu, .string pt] 39)).drew.cell? ⟨wr.heap.size, 1, none⟩ = some (.string pt) := by simp [go_sem]
        clear HA hp
        go_upto_region 4 with fail
        refine wp_region_held_drew (S := fun w' => w'.cell? ⟨wr.heap.size, 0, none⟩ = some (.slice au pl.length cu) ∧ w'.cell? ⟨wr.heap.size, 1, none⟩ = some (.string pt)) (by kernel_rfl) ⟨ce1, ce2⟩ (fun hHeld => ?_)
        refine takeH 0 13 (.agg #[.slice au pl.length cu, .string pt]) rfl (by kernel_rfl) (by kernel_rfl) (by kernel_rfl) (by kernel_rfl) (fun _ _ _ _ h => h) hHeld (Or.inl ⟨rfl, fun w' hw => by obtain ⟨hw1, hw2⟩ := hw; go_simp⟩) ?_
        (try simp only [Act.put, List.foldl_cons, List.foldl_nil, List.setIfInBounds_toArray, List.set_cons_zero, List.set_cons_succ])
        refine wpAnyH_ready (rs := [1]) (by kernel_rfl) (by simp) ?_
        refine AllReadyH.cons (o := _) rfl (fun K hK => ?_) AllReadyH.nil
        go_simp
        (go_at_call 96; (with_reducible refine (HV.out _ HR1.out HM1.out).mono ?_); rintro e w1 ⟨rfl, hb1⟩; have HB2 := Lib.hid ((below_drew1 HB1.out).trans (hb1.mono HB1.out.size)); have cf1 := keepcT hb1 ce1; have cf2 := keepcT hb1 ce2; clear hb1)
        go_wp2_with fail
        refine hK.out _ _ ⟨cf1, cf2⟩ (fun hHeld2 => ?_)
        clear hK K hHeld
        have hHeld := hHeld2
        clear hHeld2
        (try simp only [Act.put, List.foldl_cons, List.foldl_nil, List.setIfInBounds_toArray, List.set_cons_zero, List.set_cons_succ])
        refine takeH 2 15 (.bool true) rfl (by kernel_rfl) (by kernel_rfl) (by kernel_rfl) (by kernel_rfl) (fun _ _ _ _ h => h) hHeld (Or.inl ⟨rfl, fun w _ => by first | rfl | (go_simp; done) | (go_simp; exact HK0.out)⟩) ?_
        (try simp only [Act.put, List.foldl_cons, List.foldl_nil, List.setIfInBounds_toArray, List.set_cons_zero, List.set_cons_succ])
        refine takeH 3 16 (.bool true) rfl (by kernel_rfl) (by kernel_rfl) (by kernel_rfl) (by kernel_rfl) (fun _ _ _ _ h => h) hHeld (Or.inl ⟨rfl, fun w _ => by first | rfl | (go_simp; done) | (go_simp; exact HK0.out)⟩) ?_
        (try simp only [Act.put, List.foldl_cons, List.foldl_nil, List.setIfInBounds_toArray, List.set_cons_zero, List.set_cons_succ])
        refine skipsH (by kernel_rfl) [(4, 17), (5, 18), (6, 19), (7, 20), (8, 21), (9, 22), (10, 23), (11, 24), (12, 25), (13, 26), (14, 27), (15, 28), (16, 29), (17, 30), (18, 31)] _ _ _ _ (by kernel_rfl) (fun _ _ _ _ h => h) hHeld ?_
        (try simp only [Act.put, List.foldl_cons, List.foldl_nil, List.setIfInBounds_toArray, List.set_cons_zero, List.set_cons_succ])
        refine takeH 19 32 (.bool true) rfl (by kernel_rfl) (by kernel_rfl) (by kernel_rfl) (by kernel_rfl) (fun _ _ _ _ h => h) hHeld (Or.inl ⟨rfl, fun w _ => by first | rfl | (go_simp; done) | (go_simp; exact HK0.out)⟩) ?_
        (try simp only [Act.put, List.foldl_cons, List.foldl_nil, List.setIfInBounds_toArray, List.set_cons_zero, List.set_cons_succ])
        refine wpAnyH_done (by kernel_rfl) ?_ _
        go_wp2_with fail
        go_ret
        exact ⟨ret_bool E.out.symm, HB0.out.trans (HB2.out.mono HW.out)⟩
      · by_cases hk0 : k = 0
        · have E := Lib.hid (show Pl.dictAt l k = true by subst hk0; exact Pl.dict_zero hlt hq)
          have hkz : ¬ (0 : Int) < (k : Int) := by omega
          have HK0 := Lib.hid hk0
          clear hk0
          generalize hp : l[k] = p at c1 c2 hf HR hq
          obtain ⟨pl, pt⟩ := p
          replace hq : Pl.entOk (pl, pt) = true := hq
          replace hf : pl.length ≤ 1048576 ∧ pt.size ≤ 1048576 := hf
          replace HR : Hid (Rows wr (.slice au pl.length cu) pl.length 1 (ints pl)) := HR
          have HV := Lib.hid (fun W h1 h2 => IsValidEntry_any (.slice au pl.length cu) pl pt W h1 hf.1 hf.2 h2)
          rw [hq] at HV
          have HB1 := Lib.hid (below_on3 HB.out (Joins.below_alloc1 wr (.cells #[.slice au pl.length cu, .string pt] 39)))
          have HR1 := Lib.hid (show Rows (wr.alloc (.cells #[.slice au pl.length cu, .string pt] 39)).drew (.slice au pl.length cu) pl.length 1 (ints pl) from Rows.drew (HR.out.keep (Joins.below_alloc1 wr (.cells #[.slice au pl.length cu, .string pt] 39))) 1)
          have HM1 := Lib.hid (show ∃ m, (wr.alloc (.cells #[.slice au pl.length cu, .string pt] 39)).drew.cell? ⟨0, 0, none⟩ = some (.int .i64 m) from (max_keepT HMr.out (Joins.below_alloc1 wr (.cells #[.slice au pl.length cu, .string pt] 39)) : ∃ m, (wr.alloc (.cells #[.slice au pl.length cu, .string pt] 39)).cell? ⟨0, 0, none⟩ = some (.int .i64 m)))
          have ce1 : (wr.alloc (.cells #[.slice au pl.length cu, .string pt] 39)).drew.cell? ⟨wr.heap.size, 0, none⟩ = some (.slice au pl.length cu) := by simp [go_sem]
          have ce2 : (wr.alloc (.cells #[.slice au pl.length cu, .string pt] 39)).drew.cell? ⟨wr.heap.size, 1, none⟩ = some (.string pt) := by simp [go_sem]
          clear hp
          go_upto_region 4 with fail
          refine wp_region_held_drew (S := fun w' => w'.cell? ⟨wr.heap.size, 0, none⟩ = some (.slice au pl.length cu) ∧ w'.cell? ⟨wr.heap.size, 1, none⟩ = some (.string pt)) (by kernel_rfl) ⟨ce1, ce2⟩ (fun hHeld => ?_)
          refine takeH 0 13 (.agg #[.slice au pl.length cu, .string pt]) rfl (by kernel_rfl) (by kernel_rfl) (by kernel_rfl) (by kernel_rfl) (fun _ _ _ _ h => h) hHeld (Or.inl ⟨rfl, fun w' hw => by obtain ⟨hw1, hw2⟩ := hw; go_simp⟩) ?_
          (try simp only [Act.put, List.foldl_cons, List.foldl_nil, List.setIfInBounds_toArray, List.set_cons_zero, List.set_cons_succ])
          refine wpAnyH_ready (rs := [1]) (by kernel_rfl) (by simp) ?_
          refine AllReadyH.cons (o := _) rfl (fun K hK => ?_) AllReadyH.nil
          go_simp
          (go_at_call 96; (with_reducible refine (HV.out _ HR1.out HM1.out).mono ?_); rintro e w1 ⟨rfl, hb1⟩; have HB2 := Lib.hid ((below_drew1 HB1.out).trans (hb1.mono HB1.out.size)); have cf1 := keepcT hb1 ce1; have cf2 := keepcT hb1 ce2; clear hb1)
          go_wp2_with fail
          refine hK.out _ _ ⟨cf1, cf2⟩ (fun hHeld2 => ?_)
          clear hK K hHeld
          have hHeld := hHeld2
          clear hHeld2
          (try simp only [Act.put, List.foldl_cons, List.foldl_nil, List.setIfInBounds_toArray, List.set_cons_zero, List.set_cons_succ])
          refine takeH 2 15 (.bool false) rfl (by kernel_rfl) (by kernel_rfl) (by kernel_rfl) (by kernel_rfl) (fun _ _ _ _ h => h) hHeld (Or.inl ⟨rfl, fun w _ => by first | rfl | (go_simp; done) | (go_simp; exact HK0.out)⟩) ?_
          (try simp only [Act.put, List.foldl_cons, List.foldl_nil, List.setIfInBounds_toArray, List.set_cons_zero, List.set_cons_succ])
          refine takeH 3 16 (.bool false) rfl (by kernel_rfl) (by kernel_rfl) (by kernel_rfl) (by kernel_rfl) (fun _ _ _ _ h => h) hHeld (Or.inl ⟨rfl, fun w _ => by first | rfl | (go_simp; done) | (go_simp; exact HK0.out)⟩) ?_
          (try simp only [Act.put, List.foldl_cons, List.foldl_nil, List.setIfInBounds_toArray, List.set_cons_zero, List.set_cons_succ])
          refine takeH 4 17 (.int .i64 (k : Int)) rfl (by kernel_rfl) (by kernel_rfl) (by kernel_rfl) (by kernel_rfl) (fun _ _ _ _ h => h) hHeld (Or.inl ⟨rfl, fun w _ => by first | rfl | (go_simp; done) | (go_simp; exact HK0.out)⟩) ?_
          (try simp only [Act.put, List.foldl_cons, List.foldl_nil, List.setIfInBounds_toArray, List.set_cons_zero, List.set_cons_succ])
          refine takeH 5 18 (.bool false) rfl (by kernel_rfl) (by kernel_rfl) (by kernel_rfl) (by kernel_rfl) (fun _ _ _ _ h => h) hHeld (Or.inl ⟨rfl, fun w _ => by first | rfl | (go_simp; done) | (go_simp; exact HK0.out)⟩) ?_
          (try simp only [Act.put, List.foldl_cons, List.foldl_nil, List.setIfInBounds_toArray, List.set_cons_zero, List.set_cons_succ])
          refine takeH 6 19 (.bool false) rfl (by kernel_rfl) (by kernel_rfl) (by kernel_rfl) (by kernel_rfl) (fun _ _ _ _ h => h) hHeld (Or.inl ⟨rfl, fun w _ => by first | rfl | (go_simp; done) | (go_simp; exact HK0.out)⟩) ?_
          (try simp only [Act.put, List.foldl_cons, List.foldl_nil, List.setIfInBounds_toArray, List.set_cons_zero, List.set_cons_succ])
          refine skipsH (by kernel_rfl) [(7, 20), (8, 21), (9, 22), (10, 23), (11, 24), (12, 25), (13, 26), (14, 27), (15, 28), (16, 29), (17, 30)] _ _ _ _ (by kernel_rfl) (fun _ _ _ _ h => h) hHeld ?_
          (try simp only [Act.put, List.foldl_cons, List.foldl_nil, List.setIfInBounds_toArray, List.set_cons_zero, List.set_cons_succ])
          refine takeH 18 31 (.bool false) rfl (by kernel_rfl) (by kernel_rfl) (by kernel_rfl) (by kernel_rfl) (fun _ _ _ _ h => h) hHeld (Or.inl ⟨rfl, fun w _ => by first | rfl | (go_simp; done) | (go_simp; exact HK0.out)⟩) ?_
          (try simp only [Act.put, List.foldl_cons, List.foldl_nil, List.setIfInBounds_toArray, List.set_cons_zero, List.set_cons_succ])
          refine takeH 19 32 (.bool false) rfl (by kernel_rfl) (by kernel_rfl) (by kernel_rfl) (by kernel_rfl) (fun _ _ _ _ h => h) hHeld (Or.inl ⟨rfl, fun w _ => by first | rfl | (go_simp; done) | (go_simp; exact HK0.out)⟩) ?_
          (try simp only [Act.put, List.foldl_cons, List.foldl_nil, List.setIfInBounds_toArray, List.set_cons_zero, List.set_cons_succ])
          refine wpAnyH_done (by kernel_rfl) ?_ _
          go_wp2_with fail
          go_roundw
          case rel => exact ⟨k + 1, by omega, by go_num, Lib.hid (Pl.allTo_yes HA.out E.out), HB2.out⟩
          case measure => simp [intOf]; omega
        · obtain ⟨j, hj⟩ : ∃ j, k = j + 1 := ⟨k - 1, by omega⟩
          have hjn : j < l.length := by omega
          have E := Lib.hid (show Pl.dictAt l k = decide (Pl.cmpI (l[j]'hjn).1 l[k].1 < 0) by subst hj; exact Pl.dict_next hlt hq)
          obtain ⟨b2, off2, u2, hab, d1, d2, d3⟩ := ent_at (HE.out.keep HB.out) j hjn
          cases hab
          have hw1 : IntKind.i64.wrap ((k : Int) - 1) = (j : Int) := (IntWalk.i64_in _ (by omega)).trans (by omega)
          have hj0 : (0 : Int) ≤ (j : Int) := by omega
          have hjl : (j : Int) < (l.length : Int) := by omega
          have hkz : (0 : Int) < (k : Int) := by omega
          have hkn : 0 < k := by omega
          clear hj
          have hqf := (HF.out _ (List.getElem_mem hjn)).1
          obtain ⟨ap, cp, rfl, _, _⟩ := rows_form d3
          have HRp := Lib.hid d3
          clear d2 d3
          generalize hp : l[k] = p at c1 c2 hf HR hq
          obtain ⟨pl, pt⟩ := p
          replace hq : Pl.entOk (pl, pt) = true := hq
          replace hf : pl.length ≤ 1048576 ∧ pt.size ≤ 1048576 := hf
          replace HR : Hid (Rows wr (.slice au pl.length cu) pl.length 1 (ints pl)) := HR
          have HV := Lib.hid (fun W h1 h2 => IsValidEntry_any (.slice au pl.length cu) pl pt W h1 hf.1 hf.2 h2)
          rw [hq] at HV
          have HB1 := Lib.hid (below_on3 HB.out (Joins.below_alloc1 wr (.cells #[.slice au pl.length cu, .string pt] 39)))
          have HR1 := Lib.hid (show Rows (wr.alloc (.cells #[.slice au pl.length cu, .string pt] 39)).drew (.slice au pl.length cu) pl.length 1 (ints pl) from Rows.drew (HR.out.keep (Joins.below_alloc1 wr (.cells #[.slice au pl.length cu, .string pt] 39))) 1)
          have HM1 := Lib.hid (show ∃ m, (wr.alloc (.cells #[.slice au pl.length cu, .string pt] 39)).drew.cell? ⟨0, 0, none⟩ = some (.int .i64 m) from (max_keepT HMr.out (Joins.below_alloc1 wr (.cells #[.slice au pl.length cu, .string pt] 39)) : ∃ m, (wr.alloc (.cells #[.slice au pl.length cu, .string pt] 39)).cell? ⟨0, 0, none⟩ = some (.int .i64 m)))
          have ce1 : (wr.alloc (.cells #[.slice au pl.length cu, .string pt] 39)).drew.cell? ⟨wr.heap.size, 0, none⟩ = some (.slice au pl.length cu) := by simp [go_sem]
          have ce2 : (wr.alloc (.cells #[.slice au pl.length cu, .string pt] 39)).drew.cell? ⟨wr.heap.size, 1, none⟩ = some (.string pt) := by simp [go_sem]
          rw [hp] at E
          clear hp
          generalize l[j]'hjn = q at d1 HRp E hqf
          obtain ⟨ql, qt⟩ := q
          replace HRp : Hid (Rows wr (.slice ap ql.length cp) ql.length 1 (ints ql)) := HRp
          replace E : Hid (Pl.dictAt l k = decide (Pl.cmpI ql pl < 0)) := E
          replace d1 : wr.cell? ⟨b, off + j * 2, none⟩ = some (.slice ap ql.length cp) := d1
          replace hqf : ql.length ≤ 1048576 := hqf
          have HRp1 := Lib.hid (show Rows (wr.alloc (.cells #[.slice au pl.length cu, .string pt] 39)).drew (.slice ap ql.length cp) ql.length 1 (ints ql) from Rows.drew (HRp.out.keep (Joins.below_alloc1 wr (.cells #[.slice au pl.length cu, .string pt] 39))) 1)
          have HC2 := Lib.hid (fun W h1 h2 => Compare_any (.slice ap ql.length cp) (.slice au pl.length cu) ql pl W h1 h2 hqf)
          have cd1 : (wr.alloc (.cells #[.slice au pl.length cu, .string pt] 39)).drew.cell? ⟨b, off + j * 2, none⟩ = some (.slice ap ql.length cp) := keepcT (Joins.below_alloc1 wr (.cells #[.slice au pl.length cu, .string pt] 39)) d1
          have ct1 : (wr.alloc (.cells #[.slice au pl.length cu, .string pt] 39)).drew.cell? ⟨w.heap.size, 0, none⟩ = some (.slice (some ⟨b, off, none⟩) l.length cap) := keepcT (Joins.below_alloc1 wr (.cells #[.slice au pl.length cu, .string pt] 39)) q0
          generalize Pl.cmpI ql pl = cm at HC2 E
          by_cases hc : cm < 0
          · have E2 := Lib.hid (E.out.trans (decide_eq_true hc))
            have hc' : ¬ (0 : Int) ≤ cm := by omega
            go_upto_region 4 with fail
            go_region_held3 (fun w' => w'.cell? ⟨wr.heap.size, 0, none⟩ = some (.slice au pl.length cu) ∧ w'.cell? ⟨wr.heap.size, 1, none⟩ = some (.string pt) ∧ w'.cell? ⟨b, off + j * 2, none⟩ = some (.slice ap ql.length cp) ∧ w'.cell? ⟨w.heap.size, 0, none⟩ = some (.slice (some ⟨b, off, none⟩) l.length cap)) (first | exact ⟨cf1, cf2, cf3, cf4⟩ | exact ⟨ce1, ce2, cd1, ct1⟩) (first | (go_at_call 96; (with_reducible refine (HV.out _ HR1.out HM1.out).mono ?_); rintro e w1 ⟨rfl, hb1⟩; have HB2 := Lib.hid ((below_drew1 HB1.out).trans (hb1.mono HB1.out.size)); have cf1 := keepcT hb1 ce1; have cf2 := keepcT hb1 ce2; have cf3 := keepcT hb1 cd1; have cf4 := keepcT hb1 ct1; have HR2 := Lib.hid (HR1.out.keep hb1); have HRp2 := Lib.hid (HRp1.out.keep hb1); clear hb1) | (go_at_call 97; (with_reducible refine (HC2.out _ HRp2.out HR2.out).mono ?_); rintro e w' ⟨rfl, rfl⟩; have cg := cf1))
            go_wp2_with fail
            go_roundw
            case rel => exact ⟨k + 1, by omega, by go_num, Lib.hid (Pl.allTo_yes HA.out E2.out), HB2.out⟩
            case measure => simp [intOf]; omega
          · have E2 := Lib.hid (Pl.dict_no hlt (E.out.trans (decide_eq_false hc)))
            have hc' : (0 : Int) ≤ cm := by omega
            go_upto_region 4 with fail
            go_region_held3 (fun w' => w'.cell? ⟨wr.heap.size, 0, none⟩ = some (.slice au pl.length cu) ∧ w'.cell? ⟨wr.heap.size, 1, none⟩ = some (.string pt) ∧ w'.cell? ⟨b, off + j * 2, none⟩ = some (.slice ap ql.length cp) ∧ w'.cell? ⟨w.heap.size, 0, none⟩ = some (.slice (some ⟨b, off, none⟩) l.length cap)) (first | exact ⟨cf1, cf2, cf3, cf4⟩ | exact ⟨ce1, ce2, cd1, ct1⟩) (first | (go_at_call 96; (with_reducible refine (HV.out _ HR1.out HM1.out).mono ?_); rintro e w1 ⟨rfl, hb1⟩; have HB2 := Lib.hid ((below_drew1 HB1.out).trans (hb1.mono HB1.out.size)); have cf1 := keepcT hb1 ce1; have cf2 := keepcT hb1 ce2; have cf3 := keepcT hb1 cd1; have cf4 := keepcT hb1 ct1; have HR2 := Lib.hid (HR1.out.keep hb1); have HRp2 := Lib.hid (HRp1.out.keep hb1); clear hb1) | (go_at_call 97; (with_reducible refine (HC2.out _ HRp2.out HR2.out).mono ?_); rintro e w' ⟨rfl, rfl⟩; have cg := cf1))
            go_wp2_with fail
            go_ret
            exact ⟨ret_bool E2.out.symm, HB0.out.trans (HB2.out.mono HW.out)⟩
    · obtain rfl : k = l.length := by omega
      by_cases h40 : l.length ≤ 40
      · have E := Lib.hid (show Pl.dictOk l = true by unfold Pl.dictOk; rw [HA.out, decide_eq_true h40]; rfl)
        have h40' : (l.length : Int) ≤ 40 := by omega
        go_wp2
        go_ret
        exact ⟨ret_bool E.out.symm, HB0.out.trans (HB.out.mono HW.out)⟩
      · have E := Lib.hid (show Pl.dictOk l = false from Pl.dict_long (by omega))
        have h40' : ¬ (l.length : Int) ≤ 40 := by omega
        go_wp2
        go_ret
        exact ⟨ret_bool E.out.symm, HB0.out.trans (HB.out.mono HW.out)⟩

end Go.Proofs.YtdidgaibgkdjoaaGreatDoor

namespace Go.Proofs.YtdidgaibgkdjoaaGreatDoor
open Go.RowKit
set_option linter.unusedSimpArgs false

set_option maxRecDepth 20000 in
set_option maxHeartbeats 3200000 in
theorem l6Good_any (v : Value) (l : List Ent) (w : World) (hr : Ents w v l) (hl : l.length ≤ 1048576) (hs : ∀ p ∈ l, p.1.length ≤ 1048576 ∧ p.2.size ≤ 1048576) :
    Calls Tryz.prog 49 #[.agg #[v]] w fun e w' => e = .returned (.bool (Pl.dictOk l)) ∧ Below w.heap.size w w' := by
  have HB0 := Lib.hid (Joins.below_alloc1 w (.cells #[v] 26))
  have HE := Lib.hid (hr.keep HB0.out)
  have HF := Lib.hid hs
  obtain ⟨a, cap, rfl, _, _⟩ := ent_form hr
  have HC := Lib.hid (show (w.alloc (.cells #[.slice a l.length cap] 26)).cell? ⟨w.heap.size, 0, none⟩ = some (.slice a l.length cap) by simp [go_sem])
  clear hr hs
  by_cases h40 : 40 < l.length
  · have E := Lib.hid (show Pl.dictOk l = false from Pl.dict_long h40)
    have h40' : (40 : Int) < (l.length : Int) := by omega
    go_enter Tryz.func49, Tryz.ntmps49
    go_wp2
    go_ret
    exact ⟨ret_bool E.out.symm, HB0.out⟩
  have h40' : ¬ (40 : Int) < (l.length : Int) := by omega
  go_enter Tryz.func49, Tryz.ntmps49
  go_upto_region 4 with fail
  obtain ⟨W0, hW0⟩ : ∃ W0, W0 = w.alloc (.cells #[.slice a l.length cap] 26) := ⟨_, rfl⟩
  rw [← hW0] at HB0 HE HC ⊢
  have HW := Lib.hid (show w.heap.size ≤ W0.heap.size from HB0.out.size)
  clear hW0
  go_loopw [3] (fun i wr => ∃ k : Nat, k ≤ l.length ∧ i = .int .i64 k ∧ Hid (Pl.allTo (Pl.dictAt l) k = true) ∧ Below W0.heap.size W0 wr) (fun i _ => l.length - (intOf i).toNat)
  case atStart => exact ⟨0, Nat.zero_le _, rfl, Lib.hid rfl, Below.refl _ _⟩
  case round =>
    obtain ⟨k, hk, rfl, HA, hb⟩ := hrel
    have HB := Lib.hid hb; clear hb
    have q0' := keepcT HB.out HC.out
    by_cases hlt : k < l.length
    · obtain ⟨b, off, u, rfl, c1, c2, c3⟩ := ent_at (HE.out.keep HB.out) k hlt
      have q0 : wr.drew.cell? ⟨w.heap.size, 0, none⟩ = some (.slice (some ⟨b, off, none⟩) l.length cap) := q0'
      have hki : (k : Int) < (l.length : Int) := by omega
      have hk0' : (0 : Int) ≤ (k : Int) := by omega
      have hf := HF.out _ (List.getElem_mem hlt)
      obtain ⟨au, cu, rfl, _, _⟩ := rows_form c3
      have HR := Lib.hid c3
      clear c3
      cases hq : Pl.entOk l[k]
      · have E := Lib.hid (Pl.dict_no hlt (Pl.dict_none hlt hq))
        generalize hp : l[k] = p at c1 c2 hf HR hq
        obtain ⟨pl, pt⟩ := p
        replace hq : Pl.entOk (pl, pt) = false := hq
        replace hf : pl.length ≤ 1048576 ∧ pt.size ≤ 1048576 := hf
        replace HR : Hid (Rows wr (.slice au pl.length cu) pl.length 1 (ints pl)) := HR
        replace c1 : wr.drew.cell? ⟨b, off + k * 2, none⟩ = some (.slice au pl.length cu) := c1
        replace c2 : wr.drew.cell? ⟨b, off + k * 2 + 1, none⟩ = some (.string pt) := c2
        have HV := Lib.hid (fun W h1 => l6Entry_any (.slice au pl.length cu) pl pt W h1 hf.1 hf.2)
        rw [hq] at HV
        have HR1 := Lib.hid (show Rows wr.drew (.slice au pl.length cu) pl.length 1 (ints pl) from Rows.drew HR.out 1)
        clear HA hp
        go_upto_region 6 with fail
        refine wp_region_held_drew (S := fun w' => w'.cell? ⟨w.heap.size, 0, none⟩ = some (.slice (some ⟨b, off, none⟩) l.length cap) ∧ w'.cell? ⟨b, off + k * 2, none⟩ = some (.slice au pl.length cu) ∧ w'.cell? ⟨b, off + k * 2 + 1, none⟩ = some (.string pt)) (by kernel_rfl) ⟨q0, c1, c2⟩ (fun hHeld => ?_)
        refine takeH 0 15 (.pointer (some ⟨w.heap.size, 0, none⟩)) rfl (by kernel_rfl) (by kernel_rfl) (by kernel_rfl) (by kernel_rfl) (fun _ _ _ _ h => h) hHeld (Or.inl ⟨rfl, fun w _ => by first | rfl | (go_simp; done) | (go_simp; exact HK0.out)⟩) ?_
        (try simp only [Act.put, List.foldl_cons, List.foldl_nil, List.setIfInBounds_toArray, List.set_cons_zero, List.set_cons_succ])
        refine takeH 1 16 (.slice (some ⟨b, off, none⟩) l.length cap) rfl (by kernel_rfl) (by kernel_rfl) (by kernel_rfl) (by kernel_rfl) (fun _ _ _ _ h => h) hHeld (Or.inl ⟨rfl, fun w' hw => by obtain ⟨hw1, hw2, hw3⟩ := hw; go_simp⟩) ?_
        (try simp only [Act.put, List.foldl_cons, List.foldl_nil, List.setIfInBounds_toArray, List.set_cons_zero, List.set_cons_succ])
        refine takeH 2 17 (.int .i64 (k : Int)) rfl (by kernel_rfl) (by kernel_rfl) (by kernel_rfl) (by kernel_rfl) (fun _ _ _ _ h => h) hHeld (Or.inl ⟨rfl, fun w _ => by first | rfl | (go_simp; done) | (go_simp; exact HK0.out)⟩) ?_
        (try simp only [Act.put, List.foldl_cons, List.foldl_nil, List.setIfInBounds_toArray, List.set_cons_zero, List.set_cons_succ])
        refine takeH 3 18 (.pointer (some ⟨b, off + k * 2, none⟩)) rfl (by kernel_rfl) (by kernel_rfl) (by kernel_rfl) (by kernel_rfl) (fun _ _ _ _ h => h) hHeld (Or.inl ⟨rfl, fun w _ => by first | rfl | (go_simp; done) | (go_simp; exact HK0.out)⟩) ?_
        (try simp only [Act.put, List.foldl_cons, List.foldl_nil, List.setIfInBounds_toArray, List.set_cons_zero, List.set_cons_succ])
        refine takeH 4 19 (.agg #[.slice au pl.length cu, .string pt]) rfl (by kernel_rfl) (by kernel_rfl) (by kernel_rfl) (by kernel_rfl) (fun _ _ _ _ h => h) hHeld (Or.inl ⟨rfl, fun w' hw => by obtain ⟨hw1, hw2, hw3⟩ := hw; go_simp⟩) ?_
        (try simp only [Act.put, List.foldl_cons, List.foldl_nil, List.setIfInBounds_toArray, List.set_cons_zero, List.set_cons_succ])
        refine wpAnyH_ready (rs := [5]) (by kernel_rfl) (by simp) ?_
        refine AllReadyH.cons (o := _) rfl (fun K hK => ?_) AllReadyH.nil
        go_simp
        (go_at_call 98; (with_reducible refine (HV.out _ HR1.out).mono ?_); rintro e w1 ⟨rfl, hb1⟩; have HB2 := Lib.hid ((below_drew1 HB.out).trans (hb1.mono HB.out.size)); have cf0 := keepcT hb1 q0; have cf1 := keepcT hb1 c1; have cf2 := keepcT hb1 c2; clear hb1)
        go_wp2_with fail
        refine hK.out _ _ ⟨cf0, cf1, cf2⟩ (fun hHeld2 => ?_)
        clear hK K hHeld
        have hHeld := hHeld2
        clear hHeld2
        (try simp only [Act.put, List.foldl_cons, List.foldl_nil, List.setIfInBounds_toArray, List.set_cons_zero, List.set_cons_succ])
        refine takeH 6 21 (.bool true) rfl (by kernel_rfl) (by kernel_rfl) (by kernel_rfl) (by kernel_rfl) (fun _ _ _ _ h => h) hHeld (Or.inl ⟨rfl, fun w _ => by first | rfl | (go_simp; done) | (go_simp; exact HK0.out)⟩) ?_
        (try simp only [Act.put, List.foldl_cons, List.foldl_nil, List.setIfInBounds_toArray, List.set_cons_zero, List.set_cons_succ])
        refine takeH 7 22 (.bool true) rfl (by kernel_rfl) (by kernel_rfl) (by kernel_rfl) (by kernel_rfl) (fun _ _ _ _ h => h) hHeld (Or.inl ⟨rfl, fun w _ => by first | rfl | (go_simp; done) | (go_simp; exact HK0.out)⟩) ?_
        (try simp only [Act.put, List.foldl_cons, List.foldl_nil, List.setIfInBounds_toArray, List.set_cons_zero, List.set_cons_succ])
        refine skipsH (by kernel_rfl) [(8, 23), (9, 24), (10, 25), (11, 26), (12, 27), (13, 28), (14, 29), (15, 30), (16, 31), (17, 32), (18, 33), (19, 34), (20, 35), (21, 36), (22, 37), (23, 38), (24, 39), (25, 40), (26, 41)] _ _ _ _ (by kernel_rfl) (fun _ _ _ _ h => h) hHeld ?_
        (try simp only [Act.put, List.foldl_cons, List.foldl_nil, List.setIfInBounds_toArray, List.set_cons_zero, List.set_cons_succ])
        refine takeH 27 42 (.bool true) rfl (by kernel_rfl) (by kernel_rfl) (by kernel_rfl) (by kernel_rfl) (fun _ _ _ _ h => h) hHeld (Or.inl ⟨rfl, fun w _ => by first | rfl | (go_simp; done) | (go_simp; exact HK0.out)⟩) ?_
        (try simp only [Act.put, List.foldl_cons, List.foldl_nil, List.setIfInBounds_toArray, List.set_cons_zero, List.set_cons_succ])
        refine wpAnyH_done (by kernel_rfl) ?_ _
        go_wp2_with fail
        go_ret
        exact ⟨ret_bool E.out.symm, HB0.out.trans (HB2.out.mono HW.out)⟩
      · by_cases hk0 : k = 0
        · have E := Lib.hid (show Pl.dictAt l k = true by subst hk0; exact Pl.dict_zero hlt hq)
          have hkz : ¬ (0 : Int) < (k : Int) := by omega
          have HK0 := Lib.hid hk0
          clear hk0
          generalize hp : l[k] = p at c1 c2 hf HR hq
          obtain ⟨pl, pt⟩ := p
          replace hq : Pl.entOk (pl, pt) = true := hq
          replace hf : pl.length ≤ 1048576 ∧ pt.size ≤ 1048576 := hf
          replace HR : Hid (Rows wr (.slice au pl.length cu) pl.length 1 (ints pl)) := HR
          replace c1 : wr.drew.cell? ⟨b, off + k * 2, none⟩ = some (.slice au pl.length cu) := c1
          replace c2 : wr.drew.cell? ⟨b, off + k * 2 + 1, none⟩ = some (.string pt) := c2
          have HV := Lib.hid (fun W h1 => l6Entry_any (.slice au pl.length cu) pl pt W h1 hf.1 hf.2)
          rw [hq] at HV
          have HR1 := Lib.hid (show Rows wr.drew (.slice au pl.length cu) pl.length 1 (ints pl) from Rows.drew HR.out 1)
          clear hp
          go_upto_region 6 with fail
          refine wp_region_held_drew (S := fun w' => w'.cell? ⟨w.heap.size, 0, none⟩ = some (.slice (some ⟨b, off, none⟩) l.length cap) ∧ w'.cell? ⟨b, off + k * 2, none⟩ = some (.slice au pl.length cu) ∧ w'.cell? ⟨b, off + k * 2 + 1, none⟩ = some (.string pt)) (by kernel_rfl) ⟨q0, c1, c2⟩ (fun hHeld => ?_)
          refine takeH 0 15 (.pointer (some ⟨w.heap.size, 0, none⟩)) rfl (by kernel_rfl) (by kernel_rfl) (by kernel_rfl) (by kernel_rfl) (fun _ _ _ _ h => h) hHeld (Or.inl ⟨rfl, fun w _ => by first | rfl | (go_simp; done) | (go_simp; exact HK0.out)⟩) ?_
          (try simp only [Act.put, List.foldl_cons, List.foldl_nil, List.setIfInBounds_toArray, List.set_cons_zero, List.set_cons_succ])
          refine takeH 1 16 (.slice (some ⟨b, off, none⟩) l.length cap) rfl (by kernel_rfl) (by kernel_rfl) (by kernel_rfl) (by kernel_rfl) (fun _ _ _ _ h => h) hHeld (Or.inl ⟨rfl, fun w' hw => by obtain ⟨hw1, hw2, hw3⟩ := hw; go_simp⟩) ?_
          (try simp only [Act.put, List.foldl_cons, List.foldl_nil, List.setIfInBounds_toArray, List.set_cons_zero, List.set_cons_succ])
          refine takeH 2 17 (.int .i64 (k : Int)) rfl (by kernel_rfl) (by kernel_rfl) (by kernel_rfl) (by kernel_rfl) (fun _ _ _ _ h => h) hHeld (Or.inl ⟨rfl, fun w _ => by first | rfl | (go_simp; done) | (go_simp; exact HK0.out)⟩) ?_
          (try simp only [Act.put, List.foldl_cons, List.foldl_nil, List.setIfInBounds_toArray, List.set_cons_zero, List.set_cons_succ])
          refine takeH 3 18 (.pointer (some ⟨b, off + k * 2, none⟩)) rfl (by kernel_rfl) (by kernel_rfl) (by kernel_rfl) (by kernel_rfl) (fun _ _ _ _ h => h) hHeld (Or.inl ⟨rfl, fun w _ => by first | rfl | (go_simp; done) | (go_simp; exact HK0.out)⟩) ?_
          (try simp only [Act.put, List.foldl_cons, List.foldl_nil, List.setIfInBounds_toArray, List.set_cons_zero, List.set_cons_succ])
          refine takeH 4 19 (.agg #[.slice au pl.length cu, .string pt]) rfl (by kernel_rfl) (by kernel_rfl) (by kernel_rfl) (by kernel_rfl) (fun _ _ _ _ h => h) hHeld (Or.inl ⟨rfl, fun w' hw => by obtain ⟨hw1, hw2, hw3⟩ := hw; go_simp⟩) ?_
          (try simp only [Act.put, List.foldl_cons, List.foldl_nil, List.setIfInBounds_toArray, List.set_cons_zero, List.set_cons_succ])
          refine wpAnyH_ready (rs := [5]) (by kernel_rfl) (by simp) ?_
          refine AllReadyH.cons (o := _) rfl (fun K hK => ?_) AllReadyH.nil
          go_simp
          (go_at_call 98; (with_reducible refine (HV.out _ HR1.out).mono ?_); rintro e w1 ⟨rfl, hb1⟩; have HB2 := Lib.hid ((below_drew1 HB.out).trans (hb1.mono HB.out.size)); have cf0 := keepcT hb1 q0; have cf1 := keepcT hb1 c1; have cf2 := keepcT hb1 c2; clear hb1)
          go_wp2_with fail
          refine hK.out _ _ ⟨cf0, cf1, cf2⟩ (fun hHeld2 => ?_)
          clear hK K hHeld
          have hHeld := hHeld2
          clear hHeld2
          (try simp only [Act.put, List.foldl_cons, List.foldl_nil, List.setIfInBounds_toArray, List.set_cons_zero, List.set_cons_succ])
          refine takeH 6 21 (.bool false) rfl (by kernel_rfl) (by kernel_rfl) (by kernel_rfl) (by kernel_rfl) (fun _ _ _ _ h => h) hHeld (Or.inl ⟨rfl, fun w _ => by first | rfl | (go_simp; done) | (go_simp; exact HK0.out)⟩) ?_
          (try simp only [Act.put, List.foldl_cons, List.foldl_nil, List.setIfInBounds_toArray, List.set_cons_zero, List.set_cons_succ])
          refine takeH 7 22 (.bool false) rfl (by kernel_rfl) (by kernel_rfl) (by kernel_rfl) (by kernel_rfl) (fun _ _ _ _ h => h) hHeld (Or.inl ⟨rfl, fun w _ => by first | rfl | (go_simp; done) | (go_simp; exact HK0.out)⟩) ?_
          (try simp only [Act.put, List.foldl_cons, List.foldl_nil, List.setIfInBounds_toArray, List.set_cons_zero, List.set_cons_succ])
          refine takeH 8 23 (.int .i64 (k : Int)) rfl (by kernel_rfl) (by kernel_rfl) (by kernel_rfl) (by kernel_rfl) (fun _ _ _ _ h => h) hHeld (Or.inl ⟨rfl, fun w _ => by first | rfl | (go_simp; done) | (go_simp; exact HK0.out)⟩) ?_
          (try simp only [Act.put, List.foldl_cons, List.foldl_nil, List.setIfInBounds_toArray, List.set_cons_zero, List.set_cons_succ])
          refine takeH 9 24 (.bool false) rfl (by kernel_rfl) (by kernel_rfl) (by kernel_rfl) (by kernel_rfl) (fun _ _ _ _ h => h) hHeld (Or.inl ⟨rfl, fun w _ => by first | rfl | (go_simp; done) | (go_simp; exact HK0.out)⟩) ?_
          (try simp only [Act.put, List.foldl_cons, List.foldl_nil, List.setIfInBounds_toArray, List.set_cons_zero, List.set_cons_succ])
          refine takeH 10 25 (.bool false) rfl (by kernel_rfl) (by kernel_rfl) (by kernel_rfl) (by kernel_rfl) (fun _ _ _ _ h => h) hHeld (Or.inl ⟨rfl, fun w _ => by first | rfl | (go_simp; done) | (go_simp; exact HK0.out)⟩) ?_
          (try simp only [Act.put, List.foldl_cons, List.foldl_nil, List.setIfInBounds_toArray, List.set_cons_zero, List.set_cons_succ])
          refine skipsH (by kernel_rfl) [(11, 26), (12, 27), (13, 28), (14, 29), (15, 30), (16, 31), (17, 32), (18, 33), (19, 34), (20, 35), (21, 36), (22, 37), (23, 38), (24, 39), (25, 40)] _ _ _ _ (by kernel_rfl) (fun _ _ _ _ h => h) hHeld ?_
          (try simp only [Act.put, List.foldl_cons, List.foldl_nil, List.setIfInBounds_toArray, List.set_cons_zero, List.set_cons_succ])
          refine takeH 26 41 (.bool false) rfl (by kernel_rfl) (by kernel_rfl) (by kernel_rfl) (by kernel_rfl) (fun _ _ _ _ h => h) hHeld (Or.inl ⟨rfl, fun w _ => by first | rfl | (go_simp; done) | (go_simp; exact HK0.out)⟩) ?_
          (try simp only [Act.put, List.foldl_cons, List.foldl_nil, List.setIfInBounds_toArray, List.set_cons_zero, List.set_cons_succ])
          refine takeH 27 42 (.bool false) rfl (by kernel_rfl) (by kernel_rfl) (by kernel_rfl) (by kernel_rfl) (fun _ _ _ _ h => h) hHeld (Or.inl ⟨rfl, fun w _ => by first | rfl | (go_simp; done) | (go_simp; exact HK0.out)⟩) ?_
          (try simp only [Act.put, List.foldl_cons, List.foldl_nil, List.setIfInBounds_toArray, List.set_cons_zero, List.set_cons_succ])
          refine wpAnyH_done (by kernel_rfl) ?_ _
          go_wp2_with fail
          go_roundw
          case rel => exact ⟨k + 1, by omega, by go_num, Lib.hid (Pl.allTo_yes HA.out E.out), HB2.out⟩
          case measure => simp [intOf]; omega
        · obtain ⟨j, hj⟩ : ∃ j, k = j + 1 := ⟨k - 1, by omega⟩
          have hjn : j < l.length := by omega
          have E := Lib.hid (show Pl.dictAt l k = decide (Pl.cmpI (l[j]'hjn).1 l[k].1 < 0) by subst hj; exact Pl.dict_next hlt hq)
          obtain ⟨b2, off2, u2, hab, d1, d2, d3⟩ := ent_at (HE.out.keep HB.out) j hjn
          cases hab
          have hw1 : IntKind.i64.wrap ((k : Int) - 1) = (j : Int) := (IntWalk.i64_in _ (by omega)).trans (by omega)
          have hj0 : (0 : Int) ≤ (j : Int) := by omega
          have hjl : (j : Int) < (l.length : Int) := by omega
          have hkz : (0 : Int) < (k : Int) := by omega
          have hkn : 0 < k := by omega
          clear hj
          have hqf := (HF.out _ (List.getElem_mem hjn)).1
          obtain ⟨ap, cp, rfl, _, _⟩ := rows_form d3
          have HRp := Lib.hid d3
          clear d2 d3
          generalize hp : l[k] = p at c1 c2 hf HR hq
          obtain ⟨pl, pt⟩ := p
          replace hq : Pl.entOk (pl, pt) = true := hq
          replace hf : pl.length ≤ 1048576 ∧ pt.size ≤ 1048576 := hf
          replace HR : Hid (Rows wr (.slice au pl.length cu) pl.length 1 (ints pl)) := HR
          replace c1 : wr.drew.cell? ⟨b, off + k * 2, none⟩ = some (.slice au pl.length cu) := c1
          replace c2 : wr.drew.cell? ⟨b, off + k * 2 + 1, none⟩ = some (.string pt) := c2
          have HV := Lib.hid (fun W h1 => l6Entry_any (.slice au pl.length cu) pl pt W h1 hf.1 hf.2)
          rw [hq] at HV
          have HR1 := Lib.hid (show Rows wr.drew (.slice au pl.length cu) pl.length 1 (ints pl) from Rows.drew HR.out 1)
          rw [hp] at E
          clear hp
          generalize l[j]'hjn = q at d1 HRp E hqf
          obtain ⟨ql, qt⟩ := q
          replace HRp : Hid (Rows wr (.slice ap ql.length cp) ql.length 1 (ints ql)) := HRp
          replace E : Hid (Pl.dictAt l k = decide (Pl.cmpI ql pl < 0)) := E
          replace d1 : wr.drew.cell? ⟨b, off + j * 2, none⟩ = some (.slice ap ql.length cp) := d1
          replace hqf : ql.length ≤ 1048576 := hqf
          have HRp1 := Lib.hid (show Rows wr.drew (.slice ap ql.length cp) ql.length 1 (ints ql) from Rows.drew HRp.out 1)
          have HC2 := Lib.hid (fun W h1 h2 => l4Compare_any (.slice ap ql.length cp) (.slice au pl.length cu) ql pl W h1 h2 hqf)
          generalize Pl.cmpI ql pl = cm at HC2 E
          by_cases hc : cm < 0
          · have E2 := Lib.hid (E.out.trans (decide_eq_true hc))
            have hc' : ¬ (0 : Int) ≤ cm := by omega
            go_upto_region 6 with fail
            go_region_held3 (fun w' => w'.cell? ⟨w.heap.size, 0, none⟩ = some (.slice (some ⟨b, off, none⟩) l.length cap) ∧ w'.cell? ⟨b, off + k * 2, none⟩ = some (.slice au pl.length cu) ∧ w'.cell? ⟨b, off + k * 2 + 1, none⟩ = some (.string pt) ∧ w'.cell? ⟨b, off + j * 2, none⟩ = some (.slice ap ql.length cp)) (first | exact ⟨cg0, cg1, cg2, cg3⟩ | exact ⟨cf0, cf1, cf2, cf3⟩ | exact ⟨q0, c1, c2, d1⟩) (first | (go_at_call 98; (with_reducible refine (HV.out _ HR1.out).mono ?_); rintro e w1 ⟨rfl, hb1⟩; have HB2 := Lib.hid ((below_drew1 HB.out).trans (hb1.mono HB.out.size)); have cf0 := keepcT hb1 q0; have cf1 := keepcT hb1 c1; have cf2 := keepcT hb1 c2; have cf3 := keepcT hb1 d1; have HR2 := Lib.hid (HR1.out.keep hb1); have HRp2 := Lib.hid (HRp1.out.keep hb1); clear hb1) | (go_at_call 99; (with_reducible refine (HC2.out _ HRp2.out HR2.out).mono ?_); rintro e w2 ⟨rfl, hd⟩; have hb2 := hd.below; have HB3 := Lib.hid (HB2.out.trans (hb2.mono HB2.out.size)); have cg0 := keepcT hb2 cf0; have cg1 := keepcT hb2 cf1; have cg2 := keepcT hb2 cf2; have cg3 := keepcT hb2 cf3; clear hb2 hd))
            go_wp2_with fail
            go_roundw
            case rel => exact ⟨k + 1, by omega, by go_num, Lib.hid (Pl.allTo_yes HA.out E2.out), HB3.out⟩
            case measure => simp [intOf]; omega
          · have E2 := Lib.hid (Pl.dict_no hlt (E.out.trans (decide_eq_false hc)))
            have hc' : (0 : Int) ≤ cm := by omega
            go_upto_region 6 with fail
            go_region_held3 (fun w' => w'.cell? ⟨w.heap.size, 0, none⟩ = some (.slice (some ⟨b, off, none⟩) l.length cap) ∧ w'.cell? ⟨b, off + k * 2, none⟩ = some (.slice au pl.length cu) ∧ w'.cell? ⟨b, off + k * 2 + 1, none⟩ = some (.string pt) ∧ w'.cell? ⟨b, off + j * 2, none⟩ = some (.slice ap ql.length cp)) (first | exact ⟨cg0, cg1, cg2, cg3⟩ | exact ⟨cf0, cf1, cf2, cf3⟩ | exact ⟨q0, c1, c2, d1⟩) (first | (go_at_call 98; (with_reducible refine (HV.out _ HR1.out).mono ?_); rintro e w1 ⟨rfl, hb1⟩; have HB2 := Lib.hid ((below_drew1 HB.out).trans (hb1.mono HB.out.size)); have cf0 := keepcT hb1 q0; have cf1 := keepcT hb1 c1; have cf2 := keepcT hb1 c2; have cf3 := keepcT hb1 d1; have HR2 := Lib.hid (HR1.out.keep hb1); have HRp2 := Lib.hid (HRp1.out.keep hb1); clear hb1) | (go_at_call 99; (with_reducible refine (HC2.out _ HRp2.out HR2.out).mono ?_); rintro e w2 ⟨rfl, hd⟩; have hb2 := hd.below; have HB3 := Lib.hid (HB2.out.trans (hb2.mono HB2.out.size)); have cg0 := keepcT hb2 cf0; have cg1 := keepcT hb2 cf1; have cg2 := keepcT hb2 cf2; have cg3 := keepcT hb2 cf3; clear hb2 hd))
            go_wp2_with fail
            go_ret
            exact ⟨ret_bool E2.out.symm, HB0.out.trans (HB3.out.mono HW.out)⟩
    · obtain rfl : k = l.length := by omega
      have E := Lib.hid (show Pl.dictOk l = true by unfold Pl.dictOk; rw [HA.out, decide_eq_true (by omega)]; rfl)
      go_wp2
      go_ret
      exact ⟨ret_bool E.out.symm, HB0.out.trans (HB.out.mono HW.out)⟩

end Go.Proofs.YtdidgaibgkdjoaaGreatDoor

namespace Go.Proofs.YtdidgaibgkdjoaaGreatDoor
open Go.RowKit

def lookOut (l : List Ent) (o : List Int) : ByteArray := if Pl.dictOk l then Pl.textD l o else ⟨#[]⟩
def lookOk (l : List Ent) (o : List Int) : Bool := Pl.dictOk l && Pl.hasD l o

set_option maxRecDepth 20000 in
set_option maxHeartbeats 1600000 in
theorem l6Find_any (v vo : Value) (l : List Ent) (o : List Int) (w : World) (hr : Ents w v l) (hl : l.length ≤ 1048576) (hs : ∀ p ∈ l, p.1.length ≤ 1048576) (ho : Rows w vo o.length 1 (ints o)) :
    Calls Tryz.prog 72 #[.agg #[v], vo] w fun e w' => e = .returned (.tuple #[.string (Pl.textD l o), .bool (Pl.hasD l o)]) ∧ Below w.heap.size w w' := by
  have HB0 := Lib.hid (Joins.below_alloc1 w (.cells #[v] 26))
  have HE := Lib.hid (hr.keep HB0.out)
  have HO := Lib.hid (ho.keep HB0.out)
  obtain ⟨a, cap, rfl, _, _⟩ := ent_form hr
  obtain ⟨ao, co, rfl, _, _⟩ := rows_form ho
  have HC := Lib.hid (show (w.alloc (.cells #[.slice a l.length cap] 26)).cell? ⟨w.heap.size, 0, none⟩ = some (.slice a l.length cap) by simp [go_sem])
  have HF := Lib.hid (fun W h1 h2 => l6At_any (.slice a l.length cap) (.slice ao o.length co) l o W h1 hl hs h2)
  clear hr hs ho
  rcases Pl.atD_cases l o with h | ⟨k, hk, h, _⟩
  · have E1 := Lib.hid (Pl.textD_none h)
    have E2 := Lib.hid (show Pl.hasD l o = false by unfold Pl.hasD; rw [h]; rfl)
    rw [h] at HF
    clear h
    go_enter Tryz.func72, Tryz.ntmps72
    go_wp2_with (go_at_call 103; (with_reducible refine (HF.out _ HE.out HO.out).mono ?_); rintro e w1 ⟨rfl, hb1⟩; have HB1 := Lib.hid (HB0.out.trans (hb1.mono HB0.out.size)); clear hb1)
    go_ret2
    exact ⟨ret_strb E1.out.symm E2.out.symm, HB1.out⟩
  · have E1 := Lib.hid (Pl.textD_hit hk h)
    have E2 := Lib.hid (show Pl.hasD l o = true by unfold Pl.hasD; rw [h]; exact decide_eq_true (by omega))
    rw [h] at HF
    clear h
    have hki : (k : Int) < (l.length : Int) := by omega
    have hk0 : (0 : Int) ≤ (k : Int) := by omega
    have hkn : ¬ (k : Int) < 0 := by omega
    obtain ⟨b, off, u, rfl, c1, c2, c3⟩ := ent_at HE.out k hk
    clear c3
    generalize l[k] = p at c1 c2 E1
    obtain ⟨pl, pt⟩ := p
    replace c2 : (w.alloc (.cells #[.slice (some ⟨b, off, none⟩) l.length cap] 26)).cell? ⟨b, off + k * 2 + 1, none⟩ = some (.string pt) := c2
    have C2 := Lib.hid c2
    clear c1 c2
    go_enter Tryz.func72, Tryz.ntmps72
    go_wp2_with (go_at_call 103; (with_reducible refine (HF.out _ HE.out HO.out).mono ?_); rintro e w1 ⟨rfl, hb1⟩; have HB1 := Lib.hid (HB0.out.trans (hb1.mono HB0.out.size)); have d1 := keepcT hb1 C2.out; have d2 := keepcT hb1 HC.out; clear hb1)
    go_ret2
    exact ⟨ret_strb E1.out.symm E2.out.symm, HB1.out⟩
set_option maxRecDepth 20000 in
set_option maxHeartbeats 1600000 in
theorem lookup_any (v vo : Value) (l : List Ent) (o : List Int) (w : World) (hr : Ents w v l) (hl : l.length ≤ 1048576) (hs : ∀ p ∈ l, p.1.length ≤ 1048576) (ho : Rows w vo o.length 1 (ints o)) :
    Calls Tryz.prog 52 #[.agg #[v], vo] w fun e w' => e = .returned (.tuple #[.string (Pl.textD l o), .bool (Pl.hasD l o)]) ∧ Below w.heap.size w w' := by
  have HB0 := Lib.hid (Joins.below_alloc1 w (.cells #[v] 26))
  have HE := Lib.hid (hr.keep HB0.out)
  have HO := Lib.hid (ho.keep HB0.out)
  obtain ⟨a, cap, rfl, _, _⟩ := ent_form hr
  obtain ⟨ao, co, rfl, _, _⟩ := rows_form ho
  have HC := Lib.hid (show (w.alloc (.cells #[.slice a l.length cap] 26)).cell? ⟨w.heap.size, 0, none⟩ = some (.slice a l.length cap) by simp [go_sem])
  have HF := Lib.hid (fun W h1 h2 => find_any (.slice a l.length cap) (.slice ao o.length co) l o W h1 hl hs h2)
  clear hr hs ho
  rcases Pl.atD_cases l o with h | ⟨k, hk, h, _⟩
  · have E1 := Lib.hid (Pl.textD_none h)
    have E2 := Lib.hid (show Pl.hasD l o = false by unfold Pl.hasD; rw [h]; rfl)
    rw [h] at HF
    clear h
    go_enter Tryz.func52, Tryz.ntmps52
    go_wp2_with (go_at_call 101; (with_reducible refine (HF.out _ HE.out HO.out).mono ?_); rintro e w1 ⟨rfl, hb1⟩; have HB1 := Lib.hid (HB0.out.trans (hb1.mono HB0.out.size)); clear hb1)
    go_ret2
    exact ⟨ret_strb E1.out.symm E2.out.symm, HB1.out⟩
  · have E1 := Lib.hid (Pl.textD_hit hk h)
    have E2 := Lib.hid (show Pl.hasD l o = true by unfold Pl.hasD; rw [h]; exact decide_eq_true (by omega))
    rw [h] at HF
    clear h
    have hki : (k : Int) < (l.length : Int) := by omega
    have hk0 : (0 : Int) ≤ (k : Int) := by omega
    have hkn : ¬ (k : Int) < 0 := by omega
    obtain ⟨b, off, u, rfl, c1, c2, c3⟩ := ent_at HE.out k hk
    clear c3
    generalize l[k] = p at c1 c2 E1
    obtain ⟨pl, pt⟩ := p
    replace c2 : (w.alloc (.cells #[.slice (some ⟨b, off, none⟩) l.length cap] 26)).cell? ⟨b, off + k * 2 + 1, none⟩ = some (.string pt) := c2
    have C2 := Lib.hid c2
    clear c1 c2
    go_enter Tryz.func52, Tryz.ntmps52
    go_wp2_with (go_at_call 101; (with_reducible refine (HF.out _ HE.out HO.out).mono ?_); rintro e w1 ⟨rfl, hb1⟩; have HB1 := Lib.hid (HB0.out.trans (hb1.mono HB0.out.size)); have d1 := keepcT hb1 C2.out; have d2 := keepcT hb1 HC.out; clear hb1)
    go_ret2
    exact ⟨ret_strb E1.out.symm E2.out.symm, HB1.out⟩

set_option maxRecDepth 20000 in
set_option maxHeartbeats 1600000 in
theorem Lookup_any (v vo : Value) (l : List Ent) (o : List Int) (w : World) (hr : Ents w v l) (hl : l.length ≤ 1048576) (hs : ∀ p ∈ l, p.1.length ≤ 1048576 ∧ p.2.size ≤ 1048576) (ho : Rows w vo o.length 1 (ints o)) (hm : ∃ m, w.cell? ⟨0, 0, none⟩ = some (.int .i64 m)) :
    Calls Tryz.prog 14 #[.agg #[v], vo] w fun e w' => e = .returned (.tuple #[.string (lookOut l o), .bool (lookOk l o)]) ∧ Below w.heap.size w w' := by
  have HB0 := Lib.hid (Joins.below_alloc1 w (.cells #[v] 26))
  have HM := Lib.hid (max_keepT hm HB0.out)
  have HE := Lib.hid (hr.keep HB0.out)
  have HO := Lib.hid (ho.keep HB0.out)
  obtain ⟨a, cap, rfl, _, _⟩ := ent_form hr
  obtain ⟨ao, co, rfl, _, _⟩ := rows_form ho
  have HC := Lib.hid (show (w.alloc (.cells #[.slice a l.length cap] 26)).cell? ⟨w.heap.size, 0, none⟩ = some (.slice a l.length cap) by simp [go_sem])
  have HG := Lib.hid (fun W h1 h2 => IsValidDictionary_any (.slice a l.length cap) l W h1 hl hs h2)
  have HF := Lib.hid (fun W h1 h2 => lookup_any (.slice a l.length cap) (.slice ao o.length co) l o W h1 hl (fun p hp => (hs p hp).1) h2)
  have E1 := Lib.hid (show lookOut l o = if Pl.dictOk l then Pl.textD l o else ⟨#[]⟩ from rfl)
  have E2 := Lib.hid (show lookOk l o = (Pl.dictOk l && Pl.hasD l o) from rfl)
  clear hr hs ho hm
  generalize Pl.dictOk l = g at HG E1 E2
  generalize Pl.textD l o = tx at HF E1
  generalize Pl.hasD l o = y at HF E2
  cases g
  all_goals
    go_enter Tryz.func14, Tryz.ntmps14
    go_wp2_with (first
      | (go_at_call 47; (with_reducible refine (HG.out _ HE.out HM.out).mono ?_); rintro e w1 ⟨rfl, hb1⟩; have HB1 := Lib.hid (HB0.out.trans (hb1.mono HB0.out.size)); have d2 := keepcT hb1 HC.out; have HE1 := Lib.hid (HE.out.keep hb1); have HO1 := Lib.hid (HO.out.keep hb1); clear hb1)
      | (go_at_call 52; (with_reducible refine (HF.out _ HE1.out HO1.out).mono ?_); rintro e w2 ⟨rfl, hb2⟩; have HB2 := Lib.hid (HB1.out.trans (hb2.mono HB1.out.size)); clear hb2))
    go_ret2
    exact ⟨ret_strb (by rw [E1.out]; rfl) (by rw [E2.out]; rfl), by first | exact HB2.out | exact HB1.out⟩

end Go.Proofs.YtdidgaibgkdjoaaGreatDoor

namespace Go.Proofs.YtdidgaibgkdjoaaGreatDoor
open Go.RowKit

/-- the longest outline of at most n strokes at i -/
def matD (l : List Ent) (o : List Int) (i : Nat) : Nat → Int × Int × ByteArray
  | 0 => (i, 1, ⟨#[]⟩)
  | n + 1 => if i + (n + 1) ≤ o.length ∧ Pl.hasD l ((o.drop i).take (n + 1)) = true then (i, ((n + 1 : Nat) : Int), Pl.textD l ((o.drop i).take (n + 1))) else matD l o i n
theorem matD_skip {l : List Ent} {o : List Int} {i n : Nat} (h : ¬ i + (n + 1) ≤ o.length) : matD l o i (n + 1) = matD l o i n := by
  conv => lhs; unfold matD
  rw [if_neg (fun h2 => h h2.1)]
theorem matD_no {l : List Ent} {o : List Int} {i n : Nat} (h : Pl.hasD l ((o.drop i).take (n + 1)) = false) : matD l o i (n + 1) = matD l o i n := by
  conv => lhs; unfold matD
  rw [if_neg (fun h2 => by rw [h] at h2; exact absurd h2.2 (by decide))]
theorem matD_yes {l : List Ent} {o : List Int} {i n : Nat} (h1 : i + (n + 1) ≤ o.length) (h : Pl.hasD l ((o.drop i).take (n + 1)) = true) : matD l o i (n + 1) = ((i : Int), ((n + 1 : Nat) : Int), Pl.textD l ((o.drop i).take (n + 1))) := by
  unfold matD
  rw [if_pos ⟨h1, h⟩]
theorem matD_min {l : List Ent} {o : List Int} {i : Nat} : ∀ (n m : Nat), m ≤ n → o.length - i ≤ m → matD l o i n = matD l o i m
  | 0, m, h, _ => by
    obtain rfl : m = 0 := by omega
    rfl
  | n + 1, m, h, h2 => by
    by_cases he : m = n + 1
    · rw [he]
    · by_cases hi : i + (n + 1) ≤ o.length
      · omega
      · rw [matD_skip hi]
        exact matD_min n m (by omega) h2

/-- a part of a row of integers -/
theorem rows_part {w : World} {b off : Nat} {cap : Nat} {l : List Int} (h : Rows w (.slice (some ⟨b, off, none⟩) l.length cap) l.length 1 (ints l)) (i n : Nat) (hi : i + n ≤ l.length) :
    Rows w (.slice (some ⟨b, off + i, none⟩) n (cap - i)) ((l.drop i).take n).length 1 (ints ((l.drop i).take n)) := by
  have hn : ((l.drop i).take n).length = n := by rw [List.length_take, List.length_drop]; omega
  obtain ⟨a, cap', h1, h2, h3, h4, h5, h6⟩ := h
  cases h1
  refine ⟨some ⟨b, off + i, none⟩, cap - i, by rw [hn], by rw [hn]; omega, by omega, by simp [ints], (fun h => nomatch h), fun j u hj => ?_⟩
  have hj' : j < n := by
    rcases Nat.lt_or_ge j n with h' | h'
    · exact h'
    · rw [List.getElem?_eq_none (by rw [ints_length, hn]; exact h')] at hj; cases hj
  have hj2 : (ints l)[i + j]? = some u := by
    rw [← hj]
    simp only [ints, List.getElem?_map, List.getElem?_take, if_pos hj', List.getElem?_drop]
  obtain ⟨b1, o1, e1, e2⟩ := h6 _ _ hj2
  cases e1
  exact ⟨_, _, rfl, by rw [Nat.add_assoc]; exact e2⟩

end Go.Proofs.YtdidgaibgkdjoaaGreatDoor

namespace Go.Proofs.YtdidgaibgkdjoaaGreatDoor
open Go.RowKit

theorem ret_piece {a b : Int} {t : ByteArray} {p : Int × Int × ByteArray} (h : p = (a, b, t)) : Ending.returned (.agg #[.int .i64 a, .int .i64 b, .string t]) = .returned (.agg #[.int .i64 p.1, .int .i64 p.2.1, .string p.2.2]) := by rw [h]

set_option maxRecDepth 20000 in
set_option maxHeartbeats 3200000 in
theorem l11Match_any (v vo : Value) (l : List Ent) (o : List Int) (i : Nat) (w : World) (hr : Ents w v l) (hl : l.length ≤ 1048576) (hs : ∀ p ∈ l, p.1.length ≤ 1048576) (ho : Rows w vo o.length 1 (ints o)) (hol : o.length ≤ 1048576) (hi : i < o.length) :
    Calls Tryz.prog 177 #[.agg #[v], vo, .int .i64 i] w fun e w' => e = .returned (.agg #[.int .i64 (matD l o i 6).1, .int .i64 (matD l o i 6).2.1, .string (matD l o i 6).2.2]) ∧ Below w.heap.size w w' := by
  have HB0 := Lib.hid (Joins.below_alloc2 w (.cells #[v] 26) (.cells #[.int .i64 0, .int .i64 0, .string ⟨#[]⟩] 166))
  have HE := Lib.hid (hr.keep HB0.out)
  have HO := Lib.hid (ho.keep HB0.out)
  have HF := Lib.hid hs
  obtain ⟨a, cap, rfl, _, _⟩ := ent_form hr
  obtain ⟨ao, co, rfl, hco, _⟩ := rows_form ho
  obtain ⟨bo, oo, rfl⟩ : ∃ bo oo, ao = some ⟨bo, oo, none⟩ := by
    obtain ⟨a1, c1, h1, _, _, _, _, h6⟩ := ho
    cases h1
    obtain ⟨b1, o1, e1, _⟩ := h6 _ _ (ints_at o 0 (by omega))
    exact ⟨b1, o1, e1⟩
  clear hr hs ho
  have HC := Lib.hid (show ((w.alloc (.cells #[.slice a l.length cap] 26)).alloc (.cells #[.int .i64 0, .int .i64 0, .string ⟨#[]⟩] 166)).cell? ⟨w.heap.size, 0, none⟩ = some (.slice a l.length cap) by simp [go_sem])
  go_enter Tryz.func177, Tryz.ntmps177
  go_upto_region 2 with fail
  obtain ⟨W0, hW0⟩ : ∃ W0, W0 = (w.alloc (.cells #[.slice a l.length cap] 26)).alloc (.cells #[.int .i64 0, .int .i64 0, .string ⟨#[]⟩] 166) := ⟨_, rfl⟩
  rw [← hW0] at HB0 HE HC HO ⊢
  have HW := Lib.hid (show w.heap.size ≤ W0.heap.size from HB0.out.size)
  have P0 := Lib.hid (show W0.cell? ⟨w.heap.size + 1, 0, none⟩ = some (.int .i64 0) by rw [hW0]; simp [go_sem])
  have P1 := Lib.hid (show W0.cell? ⟨w.heap.size + 1, 1, none⟩ = some (.int .i64 0) by rw [hW0]; simp [go_sem])
  have P2 := Lib.hid (show W0.cell? ⟨w.heap.size + 1, 2, none⟩ = some (.string ⟨#[]⟩) by rw [hW0]; simp [go_sem])
  have PF := Lib.hid (show ∀ i, W0.frozen? ⟨w.heap.size + 1, i, none⟩ = false by intro i; rw [hW0]; simp [go_sem])
  have PZ := Lib.hid (show w.heap.size + 1 < W0.heap.size by rw [hW0]; simp)
  clear hW0
  go_loopw [7, 8, 9] (fun n _ _ wr => ∃ k : Nat, k ≤ 6 ∧ n = .int .i64 k ∧ Hid (matD l o i 6 = matD l o i k) ∧ Below W0.heap.size W0 wr) (fun n _ _ _ => (intOf n).toNat)
  case atStart => exact ⟨6, by omega, rfl, Lib.hid rfl, Below.refl _ _⟩
  case round =>
    obtain ⟨k, hk, rfl, HA, hb⟩ := hrel
    have HB := Lib.hid hb; clear hb
    have q0 := keepcT HB.out HC.out
    have p0 := keepcT HB.out P0.out
    have p1 := keepcT HB.out P1.out
    have p2 := keepcT HB.out P2.out
    have pf := fun i => ((bcell HB.out).2 _ i PZ.out).trans (PF.out i)
    by_cases hk0 : 0 < k
    · obtain ⟨m, hm⟩ : ∃ m, k = m + 1 := ⟨k - 1, by omega⟩
      have hki : (0 : Int) < (k : Int) := by omega
      have hw1 : IntKind.i64.wrap ((k : Int) - 1) = (m : Int) := (IntWalk.i64_in _ (by omega)).trans (by omega)
      have hw2 : IntKind.i64.wrap ((i : Int) + (k : Int)) = (i : Int) + (k : Int) := IntWalk.i64_in _ (by omega)
      have hmk : m < k := by omega
      by_cases hfit : i + k ≤ o.length
      · have hf1 : ¬ (o.length : Int) < (i : Int) + (k : Int) := by omega
        have hf2 : (i : Int) + (k : Int) ≤ (o.length : Int) := by omega
        have hf3 : (i : Int) ≤ (i : Int) + (k : Int) := by omega
        have hf4 : (0 : Int) ≤ (i : Int) := by omega
        have hf5 : (o.length : Int) ≤ (co : Int) := by omega
        have hf6 : ¬ co = i := by omega
        have hf7 : ¬ i = co := by omega
        have hf8 : i < co := by omega
        have hf9 : ¬ co - i = 0 := by omega
        have hf10 : ¬ co ≤ i := by omega
        have hf11 : (i : Int) + (k : Int) ≤ (co : Int) := by omega
        have hf12 : ((i : Int) + (k : Int)).toNat - i = k := by omega
        have HRP := Lib.hid (rows_part (show Rows wr.drew (.slice (some ⟨bo, oo, none⟩) o.length co) o.length 1 (ints o) from Rows.drew (HO.out.keep HB.out) 1) i k hfit)
        have HF2 := Lib.hid (fun W h1 h2 => l6Find_any (.slice a l.length cap) (.slice (some ⟨bo, oo + i, none⟩) k (co - i)) l ((o.drop i).take k) W h1 hl HF.out h2)
        have HEr := Lib.hid (show Ents wr.drew (.slice a l.length cap) l from Ents.drew (HE.out.keep HB.out) 1)
        cases hq : Pl.hasD l ((o.drop i).take k)
        · have E := Lib.hid (HA.out.trans (show matD l o i k = matD l o i m by subst hm; exact matD_no hq))
          rw [hq] at HF2
          clear hm hq
          generalize Pl.textD l ((o.drop i).take k) = tx at HF2
          go_upto_region 5 with fail
          go_region_held3 (fun w' => w'.cell? ⟨w.heap.size, 0, none⟩ = some (.slice a l.length cap)) (first | exact q1 | exact q0) (first | (go_at_call 72; (with_reducible refine (HF2.out _ HEr.out HRP.out).mono ?_); rintro e w2 ⟨rfl, hb2⟩; have q1 := keepcT hb2 q0; have HB2 := Lib.hid ((below_drew1 HB.out).trans (hb2.mono HB.out.size)); clear hb2))
          all_goals go_wp2
          all_goals go_roundw
          all_goals first | (exact ⟨m, by omega, by go_num, E, HB2.out⟩) | (simp [intOf]; omega)
        · have E := Lib.hid (HA.out.trans (show matD l o i k = ((i : Int), (k : Int), Pl.textD l ((o.drop i).take k)) by subst hm; exact matD_yes hfit hq))
          rw [hq] at HF2
          clear hm hq
          generalize Pl.textD l ((o.drop i).take k) = tx at HF2 E
          go_upto_region 5 with fail
          go_region_held3 (fun w' => w'.cell? ⟨w.heap.size, 0, none⟩ = some (.slice a l.length cap)) (first | exact q1 | exact q0) (first | (go_at_call 72; (with_reducible refine (HF2.out _ HEr.out HRP.out).mono ?_); rintro e w2 ⟨rfl, hb2⟩; have q1 := keepcT hb2 q0; have r0 := keepcT hb2 p0; have r1 := keepcT hb2 p1; have r2 := keepcT hb2 p2; have rf := fun i => ((bcell hb2).2 _ i (Nat.lt_of_lt_of_le PZ.out HB.out.size)).trans (pf i); have HB2 := Lib.hid ((below_drew1 HB.out).trans (hb2.mono HB.out.size)); clear hb2))
          all_goals go_wp2
          all_goals refine bodyPost_ret (v := .agg #[.int .i64 (i : Int), .int .i64 (k : Int), .string tx]) (by simp [results, Tryz.results177, go_sem, *]) rfl ⟨ret_piece E.out, ?_⟩
          all_goals exact (((HB0.out.trans (HB2.out.mono HW.out)).setCell (by dsimp only; omega) _).setCell (by dsimp only; omega) _).setCell (by dsimp only; omega) _
      · have E := Lib.hid (HA.out.trans (show matD l o i k = matD l o i m by rw [hm]; exact matD_skip (by omega)))
        have hf1 : (o.length : Int) < (i : Int) + (k : Int) := by omega
        clear hm
        go_wp2
        go_roundw
        case rel => exact ⟨m, by omega, by go_num, E, HB.out⟩
        case measure => simp [intOf]; omega
    · obtain rfl : k = 0 := by omega
      go_wp2
      refine bodyPost_ret (v := .agg #[.int .i64 (i : Int), .int .i64 1, .string ⟨#[]⟩]) (by simp [results, Tryz.results177, go_sem, *]) rfl ⟨ret_piece HA.out, ?_⟩
      exact (((HB0.out.trans (HB.out.mono HW.out)).setCell (by dsimp only; omega) _).setCell (by dsimp only; omega) _).setCell (by dsimp only; omega) _

end Go.Proofs.YtdidgaibgkdjoaaGreatDoor

namespace Go.Proofs.YtdidgaibgkdjoaaGreatDoor
open Go.RowKit

set_option maxRecDepth 20000 in
set_option maxHeartbeats 3200000 in
theorem matchAt_any (v vo : Value) (l : List Ent) (o : List Int) (i : Nat) (w : World) (hr : Ents w v l) (hl : l.length ≤ 1048576) (hs : ∀ p ∈ l, p.1.length ≤ 1048576) (ho : Rows w vo o.length 1 (ints o)) (hol : o.length ≤ 1048576) (hi : i < o.length) :
    Calls Tryz.prog 134 #[.agg #[v], vo, .int .i64 i] w fun e w' => e = .returned (.agg #[.int .i64 (matD l o i 6).1, .int .i64 (matD l o i 6).2.1, .string (matD l o i 6).2.2]) ∧ Below w.heap.size w w' := by
  have HB0 := Lib.hid (Joins.below_alloc2 w (.cells #[v] 26) (.cells #[.int .i64 0, .int .i64 0, .string ⟨#[]⟩] 166))
  have HE := Lib.hid (hr.keep HB0.out)
  have HO := Lib.hid (ho.keep HB0.out)
  have HF := Lib.hid hs
  obtain ⟨a, cap, rfl, _, _⟩ := ent_form hr
  obtain ⟨ao, co, rfl, hco, _⟩ := rows_form ho
  obtain ⟨bo, oo, rfl⟩ : ∃ bo oo, ao = some ⟨bo, oo, none⟩ := by
    obtain ⟨a1, c1, h1, _, _, _, _, h6⟩ := ho
    cases h1
    obtain ⟨b1, o1, e1, _⟩ := h6 _ _ (ints_at o 0 (by omega))
    exact ⟨b1, o1, e1⟩
  clear hr hs ho
  have HC := Lib.hid (show ((w.alloc (.cells #[.slice a l.length cap] 26)).alloc (.cells #[.int .i64 0, .int .i64 0, .string ⟨#[]⟩] 166)).cell? ⟨w.heap.size, 0, none⟩ = some (.slice a l.length cap) by simp [go_sem])
  have hw0 : IntKind.i64.wrap ((o.length : Int) - (i : Int)) = (o.length : Int) - (i : Int) := IntWalk.i64_in _ (by omega)
  have HMIN := Lib.hid (show matD l o i 6 = matD l o i (min 6 (o.length - i)) by
    by_cases h : o.length - i ≤ 6
    · rw [Nat.min_eq_right h]; exact matD_min 6 _ h (Nat.le_refl _)
    · rw [Nat.min_eq_left (by omega)])
  go_enter Tryz.func134, Tryz.ntmps134
  go_upto_region 2 with fail
  obtain ⟨W0, hW0⟩ : ∃ W0, W0 = (w.alloc (.cells #[.slice a l.length cap] 26)).alloc (.cells #[.int .i64 0, .int .i64 0, .string ⟨#[]⟩] 166) := ⟨_, rfl⟩
  rw [← hW0] at HB0 HE HC HO ⊢
  have HW := Lib.hid (show w.heap.size ≤ W0.heap.size from HB0.out.size)
  have P0 := Lib.hid (show W0.cell? ⟨w.heap.size + 1, 0, none⟩ = some (.int .i64 0) by rw [hW0]; simp [go_sem])
  have P1 := Lib.hid (show W0.cell? ⟨w.heap.size + 1, 1, none⟩ = some (.int .i64 0) by rw [hW0]; simp [go_sem])
  have P2 := Lib.hid (show W0.cell? ⟨w.heap.size + 1, 2, none⟩ = some (.string ⟨#[]⟩) by rw [hW0]; simp [go_sem])
  have PF := Lib.hid (show ∀ i, W0.frozen? ⟨w.heap.size + 1, i, none⟩ = false by intro i; rw [hW0]; simp [go_sem])
  have PZ := Lib.hid (show w.heap.size + 1 < W0.heap.size by rw [hW0]; simp)
  clear hW0
  go_loopw [7, 8, 9] (fun n _ _ wr => ∃ k : Nat, (k ≤ 6 ∧ i + k ≤ o.length) ∧ n = .int .i64 k ∧ Hid (matD l o i 6 = matD l o i k) ∧ Below W0.heap.size W0 wr) (fun n _ _ _ => (intOf n).toNat)
  case atStart => exact ⟨min 6 (o.length - i), by omega, congrArg (Value.int .i64) (by omega), HMIN, Below.refl _ _⟩
  case round =>
    obtain ⟨k, ⟨hk, hfit⟩, rfl, HA, hb⟩ := hrel
    have HB := Lib.hid hb; clear hb
    have q0 := keepcT HB.out HC.out
    have p0 := keepcT HB.out P0.out
    have p1 := keepcT HB.out P1.out
    have p2 := keepcT HB.out P2.out
    have pf := fun i => ((bcell HB.out).2 _ i PZ.out).trans (PF.out i)
    by_cases hk0 : 0 < k
    · obtain ⟨m, hm⟩ : ∃ m, k = m + 1 := ⟨k - 1, by omega⟩
      have hki : (1 : Int) ≤ (k : Int) := by omega
      have hw1 : IntKind.i64.wrap ((k : Int) - 1) = (m : Int) := (IntWalk.i64_in _ (by omega)).trans (by omega)
      have hw2 : IntKind.i64.wrap ((i : Int) + (k : Int)) = (i : Int) + (k : Int) := IntWalk.i64_in _ (by omega)
      have hmk : m < k := by omega
      have hf1 : ¬ (o.length : Int) < (i : Int) + (k : Int) := by omega
      have hf2 : (i : Int) + (k : Int) ≤ (o.length : Int) := by omega
      have hf3 : (i : Int) ≤ (i : Int) + (k : Int) := by omega
      have hf4 : (0 : Int) ≤ (i : Int) := by omega
      have hf5 : (o.length : Int) ≤ (co : Int) := by omega
      have hf6 : ¬ co = i := by omega
      have hf7 : ¬ i = co := by omega
      have hf8 : i < co := by omega
      have hf9 : ¬ co - i = 0 := by omega
      have hf10 : ¬ co ≤ i := by omega
      have hf11 : (i : Int) + (k : Int) ≤ (co : Int) := by omega
      have hf12 : ((i : Int) + (k : Int)).toNat - i = k := by omega
      have HRP := Lib.hid (rows_part (show Rows wr.drew (.slice (some ⟨bo, oo, none⟩) o.length co) o.length 1 (ints o) from Rows.drew (HO.out.keep HB.out) 1) i k hfit)
      have HF2 := Lib.hid (fun W h1 h2 => lookup_any (.slice a l.length cap) (.slice (some ⟨bo, oo + i, none⟩) k (co - i)) l ((o.drop i).take k) W h1 hl HF.out h2)
      have HEr := Lib.hid (show Ents wr.drew (.slice a l.length cap) l from Ents.drew (HE.out.keep HB.out) 1)
      cases hq : Pl.hasD l ((o.drop i).take k)
      · have E := Lib.hid (HA.out.trans (show matD l o i k = matD l o i m by subst hm; exact matD_no hq))
        rw [hq] at HF2
        clear hm hq
        generalize Pl.textD l ((o.drop i).take k) = tx at HF2
        go_upto_region 4 with fail
        go_region_held3 (fun w' => w'.cell? ⟨w.heap.size, 0, none⟩ = some (.slice a l.length cap)) (first | exact q1 | exact q0) (first | (go_at_call 52; (with_reducible refine (HF2.out _ HEr.out HRP.out).mono ?_); rintro e w2 ⟨rfl, hb2⟩; have q1 := keepcT hb2 q0; have HB2 := Lib.hid ((below_drew1 HB.out).trans (hb2.mono HB.out.size)); clear hb2))
        all_goals go_wp2
        all_goals go_roundw
        all_goals first | (exact ⟨m, by omega, by go_num, E, HB2.out⟩) | (simp [intOf]; omega)
      · have E := Lib.hid (HA.out.trans (show matD l o i k = ((i : Int), (k : Int), Pl.textD l ((o.drop i).take k)) by subst hm; exact matD_yes hfit hq))
        rw [hq] at HF2
        clear hm hq
        generalize Pl.textD l ((o.drop i).take k) = tx at HF2 E
        go_upto_region 4 with fail
        go_region_held3 (fun w' => w'.cell? ⟨w.heap.size, 0, none⟩ = some (.slice a l.length cap)) (first | exact q1 | exact q0) (first | (go_at_call 52; (with_reducible refine (HF2.out _ HEr.out HRP.out).mono ?_); rintro e w2 ⟨rfl, hb2⟩; have q1 := keepcT hb2 q0; have r0 := keepcT hb2 p0; have r1 := keepcT hb2 p1; have r2 := keepcT hb2 p2; have rf := fun i => ((bcell hb2).2 _ i (Nat.lt_of_lt_of_le PZ.out HB.out.size)).trans (pf i); have HB2 := Lib.hid ((below_drew1 HB.out).trans (hb2.mono HB.out.size)); clear hb2))
        all_goals go_wp2
        all_goals refine bodyPost_ret (v := .agg #[.int .i64 (i : Int), .int .i64 (k : Int), .string tx]) (by simp [results, Tryz.results134, go_sem, *]) rfl ⟨ret_piece E.out, ?_⟩
        all_goals exact (((HB0.out.trans (HB2.out.mono HW.out)).setCell (by dsimp only; omega) _).setCell (by dsimp only; omega) _).setCell (by dsimp only; omega) _
    · obtain rfl : k = 0 := by omega
      go_wp2
      refine bodyPost_ret (v := .agg #[.int .i64 (i : Int), .int .i64 1, .string ⟨#[]⟩]) (by simp [results, Tryz.results134, go_sem, *]) rfl ⟨ret_piece HA.out, ?_⟩
      exact (((HB0.out.trans (HB.out.mono HW.out)).setCell (by dsimp only; omega) _).setCell (by dsimp only; omega) _).setCell (by dsimp only; omega) _

end Go.Proofs.YtdidgaibgkdjoaaGreatDoor

namespace Go.Proofs.YtdidgaibgkdjoaaGreatDoor
open Go.RowKit

def matOk (l : List Ent) (o : List Int) : Bool := Pl.dictOk l && strokesOk o

set_option maxRecDepth 20000 in
set_option maxHeartbeats 1600000 in
theorem isMatched_any (v vo : Value) (l : List Ent) (o : List Int) (w : World) (hr : Ents w v l) (hl : l.length ≤ 1048576) (hs : ∀ p ∈ l, p.1.length ≤ 1048576 ∧ p.2.size ≤ 1048576) (ho : Rows w vo o.length 1 (ints o)) (hol : o.length ≤ 1048576) (hm : ∃ m, w.cell? ⟨0, 0, none⟩ = some (.int .i64 m)) :
    Calls Tryz.prog 82 #[.agg #[v], vo] w fun e w' => e = .returned (.bool (matOk l o)) ∧ Below w.heap.size w w' := by
  have HB0 := Lib.hid (Joins.below_alloc1 w (.cells #[v] 26))
  have HM0 := Lib.hid (max_keepT hm HB0.out)
  have HO := Lib.hid (ho.keep HB0.out)
  have HV := Lib.hid (IsValidDictionary_any v l _ (hr.keep HB0.out) hl hs HM0.out)
  obtain ⟨a, cap, rfl, _, _⟩ := ent_form hr
  obtain ⟨ao, co, rfl, _, _⟩ := rows_form ho
  have HS := Lib.hid (fun W h => isStrokeList_any (.slice ao o.length co) o W h hol)
  have E := Lib.hid (show matOk l o = (Pl.dictOk l && strokesOk o) from rfl)
  clear hr ho hs hm
  generalize Pl.dictOk l = x at HV E
  generalize strokesOk o = y at HS E
  cases x
  all_goals
    go_enter Tryz.func82, Tryz.ntmps82
    go_wp2_with (first
      | (go_at_call 47; (with_reducible refine HV.out.mono ?_); rintro e w1 ⟨rfl, hb1⟩; have HB1 := Lib.hid (HB0.out.trans (hb1.mono HB0.out.size)); have HO1 := Lib.hid (HO.out.keep hb1); clear hb1)
      | (go_at_call 130; (with_reducible refine (HS.out _ HO1.out).mono ?_); rintro e w2 ⟨rfl, hb2⟩; have HB2 := Lib.hid (HB1.out.trans (hb2.mono HB1.out.size)); clear hb2))
    go_ret
    exact ⟨ret_bool (by rw [E.out]; rfl), by first | exact HB2.out | exact HB1.out⟩

def mOk (l : List Ent) (o : List Int) (i : Int) : Bool := matOk l o && Pl.inB i 0 ((o.length : Int) - 1)
def mOut (l : List Ent) (o : List Int) (i : Int) : Int × Int × ByteArray := if mOk l o i then matD l o i.toNat 6 else (0, 0, ⟨#[]⟩)
theorem in_nat {i : Int} {n : Nat} (h : Pl.inB i 0 ((n : Int) - 1) = true) : ∃ j : Nat, i = (j : Int) ∧ j < n := by
  unfold Pl.inB at h
  rw [Bool.and_eq_true, decide_eq_true_iff, decide_eq_true_iff] at h
  exact ⟨i.toNat, by omega, by omega⟩

end Go.Proofs.YtdidgaibgkdjoaaGreatDoor
