/-
  CONTRACTS: filter at texts; the closure of impl.SplitSuffix.
-/
import Derived.Test.YtfjdbchffhbidaaSpTry
namespace Go.Proofs.Ytfjdbchffhbidaa
open Go.RowKit

/-- an append of one text to a row of the call's own -/
theorem app_str {ops : Array Oper} {rest : List Oper} {o : Oper} {a : Act} {w : World} {Q : Exit → Act → World → Prop} (hgd : o.guard = none) (s x : Operand)
    (ho : o.op = .call { callee := .builtin .append, args := #[s, x], argTypes := #[26, 26] })
    (base : Nat) (v : Value) (n : Nat) (xs : List Value) (hs : a.eval s = v) (hown : w.ownsRow base 9 1 v n xs)
    (ad : Addr) (m c : Nat) (l : List ByteArray) (hx : a.eval x = .slice (some ad) m c) (hl : l.length = m) (hnews : ∀ j u, (strs l)[j]? = some u → w.cell? (ad.add j) = some u)
    (hnm : n + m ≤ 4194304) (hbase : base ≤ w.heap.size)
    (h : ∀ v' w', w'.ownsRow base 9 1 v' (n + m) (xs ++ strs l) → w.grownBy w' v.ownBlock → wpList Try.prog ops Q rest (a.put o.dst v') w') : wpList Try.prog ops Q (o :: rest) a w := by
  obtain ⟨i0, hi, hz0, hz1, hz2⟩ := info_parts Try.infoStr
  exact wpList_append_own w hgd s x 26 ho base 9 i0 (.string ⟨#[]⟩) 1 16 Try.underlying26 hi hz0 hz1 hz2 rfl (by decide) v n xs hs hown ad m c (strs l) hx (by rw [strs_length, hl, Nat.mul_one]) hnews (strs_one l)
    (by unfold maxLen; omega) (by omega) hbase (fun v' w' h1 h2 _ => h v' w' h1 h2)

/-- what passes of the first k -/
def Pl.flt (p : ByteArray → Bool) (l : List ByteArray) (k : Nat) : List ByteArray := (l.take k).filter p
theorem Pl.flt_next (p : ByteArray → Bool) (l : List ByteArray) (k : Nat) (h : k < l.length) : Pl.flt p l (k + 1) = Pl.flt p l k ++ (if p l[k] = true then [l[k]] else []) := by
  unfold Pl.flt
  rw [List.take_add_one, List.getElem?_eq_getElem h, List.filter_append]
  simp only [Option.toList_some]
  split <;> simp [*]
theorem Pl.flt_len (p : ByteArray → Bool) (l : List ByteArray) (k : Nat) : (Pl.flt p l k).length ≤ k :=
  Nat.le_trans (List.length_filter_le _ _) (by simp; omega)
theorem own_snoc {w : World} {base : Nat} {v : Value} {m : List ByteArray} {x : ByteArray} (h : w.ownsRow base 9 1 v (m.length + 1) (strs m ++ strs [x])) : w.ownsRow base 9 1 v (m ++ [x]).length (strs (m ++ [x])) := by
  rw [List.length_append, show strs (m ++ [x]) = strs m ++ strs [x] by simp [strs]]; exact h

set_option maxHeartbeats 1600000 in
theorem filterS_any (p : ByteArray → Bool) (g : Nat) (lb : Array Value) (eg : ∀ args w, (callFunc g args).run Try.prog w = .ok (.enter g args) w) (v : Value) (l : List ByteArray) (w : World) (hr : Rows w v l.length 1 (strs l)) (hl : l.length ≤ 1048576)
    (hp : ∀ (W : World) (x : ByteArray), x ∈ l → Below w.heap.size w W → Calls Try.prog g (#[.string x] ++ lb) W fun e w' => e = .returned (.bool (p x)) ∧ Below W.heap.size W w') :
    Calls Try.prog 40 #[v, .func (.func g) #[] lb] w fun e w' => (∃ vo, e = .returned vo ∧ w'.ownsRow w.heap.size 9 1 vo (l.filter p).length (strs (l.filter p))) ∧ Below w.heap.size w w' := by
  obtain ⟨a, cap, rfl, _, _, _, _, hcells⟩ := hr
  have HC := Lib.hid hcells; have HP := Lib.hid hp
  have HO := Lib.hid (World.ownsRow_made (base := w.heap.size) (e := 9) (size := 1) w #[] 0 (Nat.le_refl _) (by unfold maxLen; omega) rfl)
  have HB := Lib.hid (Joins.below_alloc1 w (.cells #[] 9))
  clear hcells hp
  go_enter Try.func40, Try.ntmps40
  go_wp2
  go_loopw [5, 7, 11] (fun out _ i wr => ∃ (k : Nat), k ≤ l.length ∧ i = .int .i64 k ∧ wr.ownsRow w.heap.size 9 1 out (Pl.flt p l k).length (strs (Pl.flt p l k)) ∧ Below w.heap.size w wr) (fun _ _ i _ => l.length - (intOf i).toNat)
  case atStart => exact ⟨0, Nat.zero_le _, rfl, HO.out, HB.out⟩
  clear HO HB
  case round =>
    obtain ⟨k, hk, rfl, hown, hb⟩ := hrel
    have HO := Lib.hid hown; have HB := Lib.hid hb; clear hown hb
    have hcl := Pl.flt_len p l k
    by_cases hlt : k < l.length
    · obtain ⟨b, off, rfl, hsrc⟩ := (HC.out.keep HB.out) k _ (strs_at l k hlt)
      have hki : (k : Int) < (l.length : Int) := by omega
      have HY := Lib.hid (Pl.flt_next p l k hlt)
      have HQ := Lib.hid (HP.out wr l[k] (List.getElem_mem hlt) HB.out)
      generalize Pl.flt p l k = m at hcl HY HO
      generalize l[k] = q at hsrc HY HQ
      cases hq : p q
      · have HN2 := Lib.hid (HY.out)
        rw [hq] at HN2
        clear HY
        go_wp2_with (go_at_fn g; refine HQ.out.mono ?_; rintro e w1 ⟨he, hb1⟩; rw [hq] at he; subst he)
        go_roundw
        case rel => exact ⟨k + 1, by omega, by go_num, by rw [HN2.out]; simp only [Bool.false_eq_true, if_false, List.append_nil]; exact own_keep HO.out hb1, HB.out.trans (hb1.mono HB.out.size)⟩
        case measure => simp [intOf]; omega
      · have HY2 := Lib.hid (HY.out)
        rw [hq] at HY2
        clear HY
        go_wp2_with (first
          | (at_builtin; have HO2 := HO1; refine app_str rfl _ _ rfl w.heap.size _ m.length (strs m) rfl (HO2.out.alloc _) ⟨_, 0, none⟩ 1 1 [q] rfl rfl (str_news _ _ _) (by omega) (by have := HB1.out.size; simp; omega) ?_; intro v2 w2 hown2 hg2)
          | (go_at_fn g; refine HQ.out.mono ?_; rintro e w1 ⟨he, hb1⟩; rw [hq] at he; subst he; have HO1 := Lib.hid (own_keep HO.out hb1); have HB1 := Lib.hid (HB.out.trans (hb1.mono HB.out.size)); clear hb1))
        have HB2 := Lib.hid ((HB1.out.alloc HB1.out.size (.cells #[.string q] 9)).grown hg2 (by have := HB1.out.size; simp; omega) (fun j hj => (HO1.out.lt j hj).1))
        have HO2 := Lib.hid hown2
        clear HB HO HB1 HO1 hown2 hg2
        go_roundw
        case rel => exact ⟨k + 1, by omega, by go_num, by rw [HY2.out]; simp only [if_true]; exact own_snoc HO2.out, HB2.out⟩
        case measure => simp [intOf]; omega
    · obtain rfl : k = l.length := by omega
      go_wp2
      go_ret
      exact ⟨⟨_, rfl, by have h := HO.out; rwa [Pl.flt, List.take_length] at h⟩, HB.out⟩

end Go.Proofs.Ytfjdbchffhbidaa
