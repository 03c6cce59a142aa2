/-
  CONTRACTS: an outline looked for in a dictionary, of the program and of the reference.
-/
import Derived.Test.YtfjdbchffhbidaaDoorSameS
import Derived.Test.YtfjdbchffhbidaaDoorEntM
import Derived.Test.YtfjdbchffhbidaaDoorDict0
namespace Go.Proofs.YtfjdbchffhbidaaDoor
open Go.RowKit

theorem all_done {l : List Ent} {o : List Int} (h : (l.take l.length).all (fun p => !(p.1 == o)) = true) : l.all (fun p => !(p.1 == o)) = true := by
  rwa [List.take_length] at h

set_option maxRecDepth 20000 in
set_option maxHeartbeats 1600000 in
theorem l6At_any (v vo : Value) (l : List Ent) (o : List Int) (w : World) (hr : Ents w v l) (hl : l.length ≤ 1048576) (hs : ∀ p ∈ l, p.1.length ≤ 1048576) (ho : Rows w vo o.length 1 (ints o)) :
    Calls Tryd.prog 96 #[.agg #[v], vo] w fun e w' => e = .returned (.int .i64 (Pl.atD l o)) ∧ Below w.heap.size w w' := by
  have HB0 := Lib.hid (Joins.below_alloc1 w (.cells #[v] 49))
  have HE := Lib.hid (hr.keep HB0.out)
  have HO := Lib.hid (ho.keep HB0.out)
  have HF := Lib.hid hs
  obtain ⟨a, cap, rfl, _, _⟩ := ent_form hr
  obtain ⟨ao, co, rfl, _, _⟩ := rows_form ho
  have HC := Lib.hid (show (w.alloc (.cells #[.slice a l.length cap] 49)).cell? ⟨w.heap.size, 0, none⟩ = some (.slice a l.length cap) by simp [go_sem])
  clear hr hs ho
  go_enter Tryd.func96, Tryd.ntmps96
  go_upto_region 2 with fail
  obtain ⟨W0, hW0⟩ : ∃ W0, W0 = w.alloc (.cells #[.slice a l.length cap] 49) := ⟨_, rfl⟩
  rw [← hW0] at HB0 HE HC HO ⊢
  have HW := Lib.hid (show w.heap.size ≤ W0.heap.size from HB0.out.size)
  clear hW0
  go_loopw [5] (fun i wr => ∃ k : Nat, k ≤ l.length ∧ i = .int .i64 k ∧ Hid ((l.take k).all (fun p => !(p.1 == o)) = true) ∧ Below W0.heap.size W0 wr) (fun i _ => l.length - (intOf i).toNat)
  case atStart => exact ⟨0, Nat.zero_le _, rfl, Lib.hid rfl, Below.refl _ _⟩
  case round =>
    obtain ⟨k, hk, rfl, HA, hb⟩ := hrel
    have HB := Lib.hid hb; clear hb
    have q0 := keepcT HB.out HC.out
    by_cases hlt : k < l.length
    · obtain ⟨b, off, u, rfl, c1, c2, c3⟩ := ent_at (HE.out.keep HB.out) k hlt
      have hki : (k : Int) < (l.length : Int) := by omega
      have hk0 : (0 : Int) ≤ (k : Int) := by omega
      have hf := HF.out _ (List.getElem_mem hlt)
      obtain ⟨au, cu, rfl, _, _⟩ := rows_form c3
      have HR := Lib.hid c3
      have HO1 := Lib.hid (HO.out.keep HB.out)
      clear c3
      cases hq : (l[k].1 == o)
      · have HA2 := Lib.hid (Pl.all_next hlt HA.out hq)
        generalize l[k] = p at c1 c2 hf HR hq
        obtain ⟨pl, pt⟩ := p
        replace hq : (pl == o) = false := hq
        replace hf : pl.length ≤ 1048576 := hf
        replace HR : Hid (Rows wr (.slice au pl.length cu) pl.length 1 (ints pl)) := HR
        have HS := Lib.hid (l1Same_any _ _ pl o wr HR.out HO1.out hf)
        rw [hq] at HS
        clear HA
        go_wp2_with (go_at_call 124; (with_reducible refine HS.out.mono ?_); rintro e w1 ⟨rfl, hd⟩; have HB2 := Lib.hid (HB.out.trans (hd.below.mono HB.out.size)); clear hd)
        go_roundw
        case rel => exact ⟨k + 1, by omega, by go_num, HA2, HB2.out⟩
        case measure => simp [intOf]; omega
      · have E := Lib.hid (Pl.atD_hit hlt HA.out hq)
        generalize l[k] = p at c1 c2 hf HR hq
        obtain ⟨pl, pt⟩ := p
        replace hq : (pl == o) = true := hq
        replace hf : pl.length ≤ 1048576 := hf
        replace HR : Hid (Rows wr (.slice au pl.length cu) pl.length 1 (ints pl)) := HR
        have HS := Lib.hid (l1Same_any _ _ pl o wr HR.out HO1.out hf)
        rw [hq] at HS
        clear HA
        go_wp2_with (go_at_call 124; (with_reducible refine HS.out.mono ?_); rintro e w1 ⟨rfl, hd⟩; have HB2 := Lib.hid (HB.out.trans (hd.below.mono HB.out.size)); clear hd)
        go_ret
        exact ⟨ret_int E.out.symm, HB0.out.trans (HB2.out.mono HW.out)⟩
    · obtain rfl : k = l.length := by omega
      have E := Lib.hid (Pl.atD_none (all_done HA.out))
      go_wp2
      go_ret
      exact ⟨ret_int E.out.symm, HB0.out.trans (HB.out.mono HW.out)⟩

set_option maxRecDepth 20000 in
set_option maxHeartbeats 1600000 in
theorem IndexFuncE_any (o : List Int) (g : Nat) (lb : Array Value) (eg : ∀ args w, (callFunc g args).run Tryd.prog w = .ok (.enter g args) w) (v : Value) (l : List Ent) (w : World) (hr : Ents w v l) (hl : l.length ≤ 1048576) (hs : ∀ p ∈ l, p.1.length ≤ 1048576)
    (hp : ∀ (W : World) (u : Value) (q : List Int) (t : ByteArray), Below w.heap.size w W → Rows W u q.length 1 (ints q) → q.length ≤ 1048576 → Calls Tryd.prog g (#[.agg #[u, .string t]] ++ lb) W fun e w' => e = .returned (.bool (q == o)) ∧ Below W.heap.size W w') :
    Calls Tryd.prog 127 #[v, .func (.func g) #[] lb] w fun e w' => e = .returned (.int .i64 (Pl.atD l o)) ∧ Below w.heap.size w w' := by
  have HP := Lib.hid hp
  have HE := Lib.hid hr
  have HF := Lib.hid hs
  obtain ⟨a, cap, rfl, _, _⟩ := ent_form hr
  clear hp hr hs
  go_enter Tryd.func127, Tryd.ntmps127
  go_wp2
  go_loopw [5, 8] (fun _ i wr => ∃ k : Nat, k ≤ l.length ∧ i = .int .i64 k ∧ Hid ((l.take k).all (fun p => !(p.1 == o)) = true) ∧ Below w.heap.size w wr) (fun _ i _ => l.length - (intOf i).toNat)
  case atStart => exact ⟨0, Nat.zero_le _, rfl, Lib.hid rfl, Below.refl _ _⟩
  case round =>
    obtain ⟨k, hk, rfl, HA, hb⟩ := hrel
    have HB := Lib.hid hb; clear hb
    by_cases hlt : k < l.length
    · obtain ⟨b, off, u, rfl, c1, c2, c3⟩ := ent_at (HE.out.keep HB.out) k hlt
      have hki : (k : Int) < (l.length : Int) := by omega
      have hk0 : (0 : Int) ≤ (k : Int) := by omega
      have hf := HF.out _ (List.getElem_mem hlt)
      cases hq : (l[k].1 == o)
      · have HA2 := Lib.hid (Pl.all_next hlt HA.out hq)
        generalize l[k] = p at c1 c2 hf c3 hq
        obtain ⟨pl, pt⟩ := p
        have HS := Lib.hid (HP.out wr u pl pt HB.out c3 hf)
        have hq2 : (pl == o) = false := hq
        rw [hq2] at HS
        clear HA hq hq2 c3
        go_wp2_with (go_at_fn g; (with_reducible refine HS.out.mono ?_); rintro e w1 ⟨rfl, hb1⟩; have HB2 := Lib.hid (HB.out.trans (hb1.mono HB.out.size)); clear hb1)
        go_roundw
        case rel => exact ⟨k + 1, by omega, by go_num, HA2, HB2.out⟩
        case measure => simp [intOf]; omega
      · have E := Lib.hid (Pl.atD_hit hlt HA.out hq)
        generalize l[k] = p at c1 c2 hf c3 hq
        obtain ⟨pl, pt⟩ := p
        have HS := Lib.hid (HP.out wr u pl pt HB.out c3 hf)
        have hq2 : (pl == o) = true := hq
        rw [hq2] at HS
        clear HA hq hq2 c3
        go_wp2_with (go_at_fn g; (with_reducible refine HS.out.mono ?_); rintro e w1 ⟨rfl, hb1⟩; have HB2 := Lib.hid (HB.out.trans (hb1.mono HB.out.size)); clear hb1)
        go_ret
        exact ⟨ret_int E.out.symm, HB2.out⟩
    · obtain rfl : k = l.length := by omega
      have E := Lib.hid (Pl.atD_none (all_done HA.out))
      go_wp2
      go_ret
      exact ⟨ret_int E.out.symm, HB.out⟩

set_option maxHeartbeats 1600000 in
theorem find_any (v vo : Value) (l : List Ent) (o : List Int) (w : World) (hr : Ents w v l) (hl : l.length ≤ 1048576) (hs : ∀ p ∈ l, p.1.length ≤ 1048576) (ho : Rows w vo o.length 1 (ints o)) :
    Calls Tryd.prog 100 #[.agg #[v], vo] w fun e w' => e = .returned (.int .i64 (Pl.atD l o)) ∧ Below w.heap.size w w' := by
  have HB0 := Lib.hid (Joins.below_alloc2 w (.cells #[v] 49) (.cells #[vo] 44))
  obtain ⟨a, cap, rfl, _, _⟩ := ent_form hr
  obtain ⟨ao, co, rfl, _, _⟩ := rows_form ho
  have H := Lib.hid (IndexFuncE_any o 128 #[.pointer (some ⟨w.heap.size + 1, 0, none⟩)] (enters_of Tryd.func128 (by kernel_rfl) rfl) (.slice a l.length cap) l ((w.alloc (.cells #[.slice a l.length cap] 49)).alloc (.cells #[.slice ao o.length co] 44)) (hr.keep HB0.out) hl hs (fun W u q t hbW hq hql => by
    show Calls Tryd.prog 128 #[.agg #[u, .string t], .pointer (some ⟨w.heap.size + 1, 0, none⟩)] _ _
    have hc0 : ((w.alloc (.cells #[.slice a l.length cap] 49)).alloc (.cells #[.slice ao o.length co] 44)).cell? ⟨w.heap.size + 1, 0, none⟩ = some (.slice ao o.length co) := by simp [go_sem]
    have hc := keepcT hbW hc0
    have HO := Lib.hid ((ho.keep HB0.out).keep hbW)
    clear hc0 hbW
    have HB1 := Lib.hid (Joins.below_alloc1 W (.cells #[u, .string t] 132))
    have hc1 := keepcT HB1.out hc
    have hs := Equal_any u (.slice ao o.length co) q o _ (hq.keep HB1.out) (HO.out.keep HB1.out) hql
    obtain ⟨aq, cq, rfl, _, _⟩ := rows_form hq
    have HS := Lib.hid hs
    generalize (q == o) = bq at HS
    clear hs hq HO hc
    go_enter Tryd.func128, Tryd.ntmps128
    go_wp2_with (go_at_call 129; (with_reducible refine HS.out.mono ?_); rintro e w1 ⟨rfl, hd⟩; have HB2 := Lib.hid (HB1.out.trans (hd.below.mono HB1.out.size)); clear hd)
    go_ret
    exact ⟨rfl, HB2.out⟩))
  clear hr ho
  go_enter Tryd.func100, Tryd.ntmps100
  go_wp2_with (go_at_call 127; (with_reducible refine H.out.mono ?_); rintro e w1 ⟨rfl, hb1⟩; have HB2 := Lib.hid (HB0.out.trans (hb1.mono HB0.out.size)); clear hb1)
  go_ret
  exact ⟨rfl, HB2.out⟩

end Go.Proofs.YtfjdbchffhbidaaDoor
