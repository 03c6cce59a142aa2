/-
  CONTRACTS: the draws of atoms that may be invalid and of lists of atoms: anyAtom, sequence.
-/
import Derived.Test.YtdidgaibgkdjoaaGreatDoorDrawAtom
import Derived.Test.YtdidgaibgkdjoaaGreatDoorStLaw
namespace Go.Proofs.YtdidgaibgkdjoaaGreatDoor
open Go.RowKit

/-- a row of the call's own has grown: the cursor is where it was -/
theorem Cur.grownNew {v : Value} {m g B : Nat} {b b' : World} {r : Option Nat} (h : Cur v m g B b) (hg : b.grownBy b' r) (hr : r ≠ some g) (hv : m = 0 ∨ v.ownBlock = none ∨ v.ownBlock ≠ r) : Cur v m g B b' := by
  have hlt := h.lt
  have e := hg.block g hlt (fun h => hr h.symm)
  obtain ⟨h1, ⟨l, l1, l2, l3⟩, h3, ⟨k, h4, h5⟩, ⟨z, h6⟩, h7⟩ := h
  have hc : ∀ i, b'.cell? ⟨g, i, none⟩ = b.cell? ⟨g, i, none⟩ := fun i => by unfold World.cell?; simp only [e]
  have hf : ∀ i, b'.frozen? ⟨g, i, none⟩ = b.frozen? ⟨g, i, none⟩ := fun i => by unfold World.frozen?; simp only [e]
  refine ⟨h1, ⟨l, l1, l2, ?_⟩, by rw [hc]; exact h3, ⟨k, h4, by rw [hc]; exact h5⟩, ⟨z, by rw [hc]; exact h6⟩, fun i => by rw [hf]; exact h7 i⟩
  rcases hv with rfl | hv
  · obtain ⟨a, cap, rfl, q2, q3, q4, q5, q6⟩ := l3
    refine ⟨a, cap, rfl, q2, q3, q4, q5, fun j u hj => ?_⟩
    have : u8s l = [] := List.length_eq_zero_iff.1 (by simpa using q4)
    rw [this] at hj; simp at hj
  · exact l3.grown hg hv
theorem Read.grownNew {v : Value} {m g B B0 : Nat} {a b b' : World} {r : Option Nat} (h : Read v m g B a b) (h0 : Cur v m g B0 a) (hg : b.grownBy b' r) (hr : ∀ k, r = some k → a.heap.size ≤ k) : Read v m g B a b' := by
  have hl := h0.lt
  have hgr : a.grownBy b' (some g) := ⟨hg.os.trans h.2.os, hg.tape.trans h.2.tape, hg.output.trans h.2.output, Nat.le_trans h.2.size hg.size, fun j hj hne => by
    rw [hg.block j (Nat.lt_of_lt_of_le hj h.2.size) (fun e => absurd (hr j e.symm) (by omega))]
    exact h.2.block j hj hne⟩
  refine ⟨?_, hgr⟩
  obtain ⟨_, ⟨l', l1', l2', l3'⟩, _⟩ := h0
  have hc := h.1.grownNew hg (fun e => absurd (hr g e) (by omega)) ?_
  · exact hc
  · rcases Nat.eq_zero_or_pos m with h0 | h0
    · exact .inl h0
    · refine .inr ?_
      cases hv : v.ownBlock with
      | none => exact .inl rfl
      | some k =>
        refine .inr fun e => ?_
        have := l3'.lt (by intro e; rw [u8s, List.map_eq_nil_iff] at e; subst e; simp at l1'; omega) _ hv
        have := hr k e.symm
        omega

def anyA (a : Int) (x : ByteArray) : Prop := -1 ≤ a ∧ a ≤ 12 ∧ x.size ≤ 24
theorem okAs_any {a : Int} {x : ByteArray} (h : okAs a x) : anyA a x := by
  have h1 := Pl.atomOk_cases h
  have h2 := (Pl.atomOk_prt h).2
  exact ⟨by omega, by omega, by omega⟩

/-- a struct of two cells that has just been laid -/
theorem Atm.newK {v : Value} {m g B : Nat} {a b : World} {R : Nat} {k : Int} {x : ByteArray} (h : Read v m g B a b) (hne : R ≠ g) (hc : Atm a R k x) : Atm b R k x := ⟨h.cellK hne hc.1, h.cellK hne hc.2⟩
theorem thaw_new (w : World) (vs : Array Value) (T : TypeId) : thawed (w.alloc (.cells vs T)) w.heap.size := fun i => by simp [go_sem]

theorem folds_snoc (l : List (Int × ByteArray)) (p : Int × ByteArray) : folds (l ++ [p]) = folds l ++ [.int .i64 p.1, .string p.2] := by
  induction l with
  | nil => rfl
  | cons q l ih => show (Value.int .i64 q.1) :: (Value.string q.2) :: folds (l ++ [p]) = (Value.int .i64 q.1) :: (Value.string q.2) :: (folds l ++ _); rw [ih]
/-- an append of one atom to a row of the call's own -/
theorem app_atom {ops : Array Oper} {rest : List Oper} {o : Oper} {a : Act} {w : World} {Q : Exit → Act → World → Prop} (hgd : o.guard = none) (s x : Operand)
    (ho : o.op = .call { callee := .builtin .append, args := #[s, x], argTypes := #[127, 127] })
    (base : Nat) (v : Value) (n : Nat) (xs : List Value) (hs : a.eval s = v) (hown : w.ownsRow base 161 2 v n xs)
    (ad : Addr) (c : Nat) (qa : Int) (qt : ByteArray) (hx : a.eval x = .slice (some ad) 1 c) (hnews : ∀ j u, [Value.int .i64 qa, .string qt][j]? = some u → w.cell? (ad.add j) = some u)
    (hnm : n + 1 ≤ 4194304) (hbase : base ≤ w.heap.size)
    (h : ∀ v' w', w'.ownsRow base 161 2 v' (n + 1) (xs ++ [Value.int .i64 qa, .string qt]) → w.grownBy w' v.ownBlock → wpList Tryz.prog ops Q rest (a.put o.dst v') w') : wpList Tryz.prog ops Q (o :: rest) a w := by
  obtain ⟨i0, hi, hz0, hz1, hz2⟩ := info_parts Tryz.infoAtom
  exact wpList_append_own w hgd s x 127 ho base 161 i0 (.agg #[.int .i64 0, .string ⟨#[]⟩]) 2 24 Tryz.underlying127 hi hz0 hz1 hz2 rfl (by decide) v n xs hs hown ad 1 c [Value.int .i64 qa, .string qt] hx rfl hnews
    (by intro u hu; simp only [List.mem_cons, List.not_mem_nil, or_false] at hu; rcases hu with rfl | rfl <;> rfl)
    (by unfold maxLen; omega) (by omega) hbase (fun v' w' h1 h2 _ => h v' w' h1 h2)
theorem atom_news (w : World) (qa : Int) (qt : ByteArray) (E : TypeId) : ∀ j u, [Value.int .i64 qa, .string qt][j]? = some u → (w.alloc (.cells #[.int .i64 qa, .string qt] E)).cell? ((⟨w.heap.size, 0, none⟩ : Addr).add j) = some u := by
  intro j u hj
  rw [Addr.add_lit, Nat.zero_add, World.cell?_alloc_mark]
  simpa using hj

/-- a list of atoms, in new memory -/
def DrawnL (v : Value) (m g B : Nat) (w w0 : World) (most : Nat) (P : Int → ByteArray → Prop) (e : Ending) (w' : World) : Prop :=
  (∃ (lv : Value) (l : List (Int × ByteArray)), e = .returned lv ∧ w'.ownsRow w.heap.size 161 2 lv l.length (folds l) ∧ l.length ≤ most ∧ (∀ p ∈ l, P p.1 p.2)) ∧ Read v m g B w0 w'

theorem own_read {v : Value} {m g B : Nat} {a b : World} {base : Nat} {e : TypeId} {size : Nat} {lv : Value} {n : Nat} {xs : List Value} (h : a.ownsRow base e size lv n xs) (hd : Read v m g B a b) (hg : g < base) : b.ownsRow base e size lv n xs := by
  refine h.kept hd.2 ?_
  cases hv : lv.ownBlock with
  | none => exact .inl rfl
  | some k => exact .inr (fun e => by have := (h.lt k hv).1; injection e with e; omega)

end Go.Proofs.YtdidgaibgkdjoaaGreatDoor
