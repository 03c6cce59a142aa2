/-
  CONTRACTS: a list of integers in new memory, and with another last element.
-/
import Derived.Test.YtfjdbchffhbidaaIntS
import Derived.Test.YtfjdbchffhbidaaPlainFold
import Derived.Laws.AppendOwn
import Derived.OwnWalk
import Derived.Lib.SmallJoins
namespace Go.Proofs.Ytfjdbchffhbidaa
open Go.RowKit

theorem CellsAt.news {w : World} {b off : Nat} {xs : List Value} (h : CellsAt w (some ⟨b, off, none⟩) xs) : ∀ j u, xs[j]? = some u → w.cell? ((⟨b, off, none⟩ : Addr).add j) = some u := by
  intro j u hj
  obtain ⟨b', off', h1, h2⟩ := h j u hj
  cases h1
  rw [Addr.add_lit]; exact h2
theorem CellsAt.pre {w : World} {a : Option Addr} {xs : List Value} (h : CellsAt w a xs) (n : Nat) : CellsAt w a (xs.take n) := fun j u hj => h j u (by
  rw [List.getElem?_take] at hj
  split at hj
  · exact hj
  · cases hj)
theorem ints_one (l : List Int) : ∀ u ∈ ints l, u.oneCell' = true := by
  intro u hu
  simp only [ints, List.mem_map] at hu
  obtain ⟨n, _, rfl⟩ := hu
  rfl

theorem one_news (w : World) (x : Int) : ∀ j u, (ints [x])[j]? = some u → (w.alloc (.cells #[.int .i64 x] 3)).cell? ((⟨w.heap.size, 0, none⟩ : Addr).add j) = some u := by
  intro j u hj
  rw [Addr.add_lit, Nat.zero_add, World.cell?_alloc_mark]
  simpa [ints] using hj
theorem ints_snoc (l : List Int) (x : Int) : ints (l ++ [x]) = ints l ++ ints [x] := by simp [ints]

/-- an append of integers to a row of the call's own -/
theorem app_int {ops : Array Oper} {rest : List Oper} {o : Oper} {a : Act} {w : World} {Q : Exit → Act → World → Prop} (hgd : o.guard = none) (s x : Operand)
    (ho : o.op = .call { callee := .builtin .append, args := #[s, x], argTypes := #[35, 35] })
    (base : Nat) (v : Value) (n : Nat) (xs : List Value) (hs : a.eval s = v) (hown : w.ownsRow base 3 1 v n xs)
    (ad : Addr) (m c : Nat) (l : List Int) (hx : a.eval x = .slice (some ad) m c) (hl : l.length = m) (hnews : ∀ j u, (ints l)[j]? = some u → w.cell? (ad.add j) = some u)
    (hnm : n + m ≤ 4194304) (hbase : base ≤ w.heap.size)
    (h : ∀ v' w', w'.ownsRow base 3 1 v' (n + m) (xs ++ ints l) → w.grownBy w' v.ownBlock → wpList Try.prog ops Q rest (a.put o.dst v') w') : wpList Try.prog ops Q (o :: rest) a w := by
  obtain ⟨i0, hi, hz0, hz1, hz2⟩ := info_parts Try.infoInt
  exact wpList_append_own w hgd s x 35 ho base 3 i0 (.int .i64 0) 1 8 Try.underlying35 hi hz0 hz1 hz2 rfl (by decide) v n xs hs hown ad m c (ints l) hx (by rw [ints_length, hl, Nat.mul_one]) hnews (ints_one l)
    (by unfold maxLen; omega) (by omega) hbase (fun v' w' h1 h2 _ => h v' w' h1 h2)

set_option maxHeartbeats 400000 in
theorem copyOf_any (b off n c : Nat) (l : List Int) (w : World) (hn : l.length = n) (hc : CellsAt w (some ⟨b, off, none⟩) (ints l)) (hl : n ≤ 1048576) :
    Calls Try.prog 84 #[.slice (some ⟨b, off, none⟩) n c] w (RetRow 3 1 w.heap.size w n (ints l)) := by
  have HC := Lib.hid ((hc.keep (Joins.below_alloc1 w (.cells #[] 3))).news)
  have HO := Lib.hid (World.ownsRow_made (base := w.heap.size) (e := 3) (size := 1) w #[] 0 (Nat.le_refl _) (by unfold maxLen; omega) rfl)
  have HB := Lib.hid (Joins.below_alloc1 w (.cells #[] 3))
  clear hc
  go_enter Try.func84, Try.ntmps84
  go_wp2_with (at_builtin; refine app_int rfl _ _ rfl w.heap.size _ 0 [] rfl HO.out ⟨b, off, none⟩ n c l rfl hn HC.out (by omega) (by simp) ?_; intro v1 w1 hown1 hg1)
  have hb1 := HB.out.grown hg1 (by simp) (fun k hk => by cases hk; exact Nat.le_refl _)
  have HO1 := Lib.hid hown1; have HB1 := Lib.hid hb1
  clear HO HB HC hown1 hg1 hb1
  go_wp2
  go_ret
  exact ⟨_, rfl, by have := HO1.out; simpa using this, HB1.out⟩

set_option maxHeartbeats 400000 in
theorem withLast_any (b off c : Nat) (l : List Int) (x : Int) (w : World) (hc : CellsAt w (some ⟨b, off, none⟩) (ints l)) (hcap : l.length ≤ c) (hl : l.length ≤ 1048576) (h1 : 1 ≤ l.length) :
    Calls Try.prog 55 #[.slice (some ⟨b, off, none⟩) l.length c, .int .i64 x] w (RetRow 3 1 w.heap.size w l.length (ints (Pl.withLast l x))) := by
  have HK := Lib.hid (copyOf_any b off (l.length - 1) c (l.take (l.length - 1)) w (by simp) (by have := hc.pre (l.length - 1); rwa [ints, ← List.map_take] at this) (by omega))
  clear hc
  go_enter Try.func55, Try.ntmps55
  go_wp2_with (first
    | (at_builtin; have HO2 := HO; refine app_int rfl _ _ rfl w.heap.size _ (l.length - 1) (ints (l.take (l.length - 1))) rfl (HO2.out.alloc _) ⟨_, 0, none⟩ 1 1 [x] rfl rfl (one_news _ x) (by omega) (by have := HB.out.size; simp; omega) ?_; intro v2 w2 hown2 hg2)
    | (go_at_call 84; refine HK.out.mono ?_; rintro e w1 ⟨v1, rfl, hown1, hb1⟩; have HO := Lib.hid hown1; have HB := Lib.hid hb1; clear hown1 hb1))
  have HB2 := Lib.hid (((HB.out.alloc HB.out.size (.cells #[.int .i64 x] 3))).grown hg2 (by have := HB.out.size; simp; omega) (fun k hk => (HO.out.lt k hk).1))
  have HO2 := Lib.hid hown2
  clear HB HO hown2 hg2
  go_ret
  refine ⟨_, rfl, ?_, HB2.out⟩
  have h := HO2.out
  rw [← ints_snoc, show l.length - 1 + 1 = l.length by omega] at h
  exact h

end Go.Proofs.Ytfjdbchffhbidaa
