/-
  PLAIN: a slice of the call's own whose elements hold slices of the call's own, made longer by one.
-/
import Derived.Test.YtkbbcmbeafjpaaaGreatDoorNestM
import Derived.Test.YtkbbcmbeafjpaaaGreatDoorFewS
namespace Go.Proofs.YtkbbcmbeafjpaaaGreatDoor
open Go.RowKit

theorem own_not_row {w w' : World} {base hi : Nat} {E : TypeId} {size n : Nat} {v : Value} {xs : List Value} (h : w.ownsRow base E size v n xs) (_ : w' = w') (hlt : ∀ g, v.ownBlock = some g → g < hi) {r : Option Nat} (hr : ∀ g, r = some g → hi ≤ g) : v.ownBlock = none ∨ v.ownBlock ≠ r := by
  rcases own_block h with h | ⟨g, h, _, _⟩
  · exact .inl h
  · refine .inr (fun e => ?_)
    have h1 := hlt g h
    have h2 := hr g (e.symm.trans h)
    omega
theorem Inner.grown {w w' : World} {lo hi sz p : Nat} {xs : List Value} {L : List (List Int)} {U : Nat → Value} {r : Option Nat} (h : Inner w lo hi xs sz p L U) (hg : w.grownBy w' r) (hd : ∀ j, j < L.length → (U j).ownBlock = none ∨ (U j).ownBlock ≠ r) : Inner w' lo hi xs sz p L U :=
  ⟨fun j hj => ⟨(h.1 j hj).1, (h.1 j hj).2.1.kept hg (hd j hj), (h.1 j hj).2.2⟩, h.2⟩
/-- the inner rows lie in other blocks than a row of another element type -/
theorem Inner.apart {w : World} {lo hi sz p b s n : Nat} {E : TypeId} {xs ys : List Value} {L : List (List Int)} {U : Nat → Value} {v : Value} (h : Inner w lo hi xs sz p L U) (hv : w.ownsRow b E s v n ys) (hE : 3 ≠ E) : ∀ j, j < L.length → (U j).ownBlock = none ∨ (U j).ownBlock ≠ v.ownBlock := by
  intro j hj
  rcases own_block (h.1 j hj).2.1 with e | ⟨g, e, _, _⟩
  · exact .inl e
  · exact .inr (fun e2 => apart_type (h.1 j hj).2.1 hv hE g e (e2.symm.trans e))
theorem Inner.wider {w : World} {lo hi hi' sz p : Nat} {xs : List Value} {L : List (List Int)} {U : Nat → Value} (h : Inner w lo hi xs sz p L U) (hh : hi ≤ hi') : Inner w lo hi' xs sz p L U :=
  ⟨fun j hj => ⟨(h.1 j hj).1, (h.1 j hj).2.1, fun g hg => Nat.lt_of_lt_of_le ((h.1 j hj).2.2 g hg) hh⟩, h.2⟩
theorem Inner.snoc {w : World} {lo hi hi' sz p : Nat} {xs ys : List Value} {L : List (List Int)} {U : Nat → Value} {u : Value} {l : List Int} (h : Inner w lo hi xs sz p L U) (hx : xs.length = L.length * sz) (hys : ys[p]? = some u)
    (hu : w.ownsRow hi 3 1 u l.length (ints l)) (hlo : lo ≤ hi) (huh : ∀ g, u.ownBlock = some g → g < hi') (hh : hi ≤ hi') :
    Inner w lo hi' (xs ++ ys) sz p (L ++ [l]) (fun j => if j < L.length then U j else u) := by
  refine ⟨fun j hj => ?_, fun i j hij hj g hg => ?_⟩
  · rw [List.length_append, List.length_singleton] at hj
    by_cases hl : j < L.length
    · obtain ⟨e1, e2, e3⟩ := h.1 j hl
      have hp := (List.getElem?_eq_some_iff.1 e1).1
      simp only [if_pos hl]
      refine ⟨by rw [List.getElem?_append_left hp]; exact e1, ?_, fun g hg => Nat.lt_of_lt_of_le (e3 g hg) hh⟩
      rw [List.getElem_append_left hl]
      exact e2
    · obtain rfl : j = L.length := by omega
      simp only [if_neg (Nat.lt_irrefl _)]
      refine ⟨?_, ?_, huh⟩
      · rw [List.getElem?_append_right (by rw [hx]; omega), hx, show L.length * sz + p - L.length * sz = p by omega]
        exact hys
      · have e : (L ++ [l])[L.length]'(by rw [List.length_append, List.length_singleton]; omega) = l := by
          rw [List.getElem_append_right (Nat.le_refl _)]; simp
        rw [e]
        exact own_base hu hlo
  · rw [List.length_append, List.length_singleton] at hj
    have hi1 : i < L.length := by omega
    simp only [if_pos hi1] at hg
    by_cases hl : j < L.length
    · simp only [if_pos hl]
      exact h.2 i j hij hl g hg
    · simp only [if_neg hl]
      intro e
      have h1 := (h.1 i hi1).2.2 g hg
      have h2 := (hu.lt g e).1
      omega
theorem Inner.lower {w : World} {lo lo' hi sz p : Nat} {xs : List Value} {L : List (List Int)} {U : Nat → Value} (h : Inner w lo hi xs sz p L U) (hh : lo' ≤ lo) : Inner w lo' hi xs sz p L U :=
  ⟨fun j hj => ⟨(h.1 j hj).1, own_base (h.1 j hj).2.1 hh, (h.1 j hj).2.2⟩, h.2⟩
theorem Inner.nil (w : World) (lo hi sz p : Nat) : Inner w lo hi [] sz p [] (fun _ => .slice none 0 0) := ⟨fun j hj => by simp at hj, fun i j _ hj => by simp at hj⟩

theorem Tryz.infoInts : (Tryz.prog.info? 25).map (fun i => (i.zero, i.size, i.bytes)) = some (some (.slice none 0 0), 1, 24) := by kernel_rfl
theorem ints_news (w : World) (u : Value) (E : TypeId) (b : Nat) (hb : b = w.heap.size) : ∀ j x, [u][j]? = some x → (w.alloc (.cells #[u] E)).cell? ((⟨b, 0, none⟩ : Addr).add j) = some x := by
  intro j x hj
  subst hb
  rw [Addr.add_lit, Nat.zero_add, World.cell?_alloc_mark]
  simpa using hj
theorem app_ints {ops : Array Oper} {rest : List Oper} {o : Oper} {a : Act} {w : World} {Q : Exit → Act → World → Prop} (hgd : o.guard = none) (s x : Operand)
    (ho : o.op = .call { callee := .builtin .append, args := #[s, x], argTypes := #[44, 44] })
    (base : Nat) (v : Value) (n : Nat) (xs : List Value) (hs : a.eval s = v) (hown : w.ownsRow base 25 1 v n xs)
    (ad : Addr) (c : Nat) (ua : Option Addr) (ul uc : Nat) (hx : a.eval x = .slice (some ad) 1 c) (hnews : ∀ j u, [Value.slice ua ul uc][j]? = some u → w.cell? (ad.add j) = some u)
    (hnm : n + 1 ≤ 4194304) (hbase : base ≤ w.heap.size)
    (h : ∀ v' w', w'.ownsRow base 25 1 v' (n + 1) (xs ++ [Value.slice ua ul uc]) → w.grownBy w' v.ownBlock → wpList Tryz.prog ops Q rest (a.put o.dst v') w') : wpList Tryz.prog ops Q (o :: rest) a w := by
  obtain ⟨i0, hi, hz0, hz1, hz2⟩ := info_parts Tryz.infoInts
  exact wpList_append_own w hgd s x 44 ho base 25 i0 (.slice none 0 0) 1 24 Tryz.underlying44 hi hz0 hz1 hz2 rfl (by decide) v n xs hs hown ad 1 c [Value.slice ua ul uc] hx rfl hnews
    (by intro u hu; simp only [List.mem_cons, List.not_mem_nil, or_false] at hu; subst hu; rfl)
    (by unfold maxLen; omega) (by omega) hbase (fun v' w' h1 h2 _ => h v' w' h1 h2)

theorem OwnNest.nil (E : TypeId) (sz p : Nat) (w : World) (lo : Nat) : OwnNest E sz p w lo w.heap.size (.slice none 0 0) [] [] := ⟨⟨World.ownsRow_nil _ _ _ _, fun g hg => by simp [Value.ownBlock] at hg, Nat.le_refl _⟩, _, Inner.nil w lo _ sz p⟩
theorem OwnNest.of {E : TypeId} {sz p : Nat} {w : World} {lo lo' : Nat} {v : Value} {L : List (List Int)} {xs : List Value} {U : Nat → Value} (h : w.ownsRow lo E sz v L.length xs) (hi : Inner w lo w.heap.size xs sz p L U) (hl : lo' ≤ lo) : OwnNest E sz p w lo' w.heap.size v L xs :=
  ⟨⟨own_base h hl, fun g hg => (h.lt g hg).2, Nat.le_refl _⟩, U, hi.lower hl⟩
/-- slices of integers laid anew -/
def RetII (w : World) (L : List (List Int)) (y : Bool) (e : Ending) (w' : World) : Prop := ∃ v xs, e = .returned (.tuple #[v, .bool y]) ∧ OwnNest 25 1 0 w' w.heap.size w'.heap.size v L xs ∧ Below w.heap.size w w'

end Go.Proofs.YtkbbcmbeafjpaaaGreatDoor
