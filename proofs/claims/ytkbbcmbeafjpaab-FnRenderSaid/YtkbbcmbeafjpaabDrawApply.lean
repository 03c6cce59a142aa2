/-
  CONTRACTS: DrawApplyAtom, DrawApplyAtoms.
-/
import Derived.Test.YtkbbcmbeafjpaabDrawStates
namespace Go.Proofs.Ytkbbcmbeafjpaab
open Go.RowKit

theorem Read.below2 {v : Value} {m g B : Nat} {w a b : World} (h : Read v m g B a b) (hw : Below w.heap.size w a) (hg : w.heap.size ≤ g) : Below w.heap.size w b := hw.trans (h.below w.heap.size hg hw.size)
theorem Atm.set {w : World} {b : Nat} {a0 : Int} {x0 : ByteArray} (h : Atm w b a0 x0) (a : Int) (x : ByteArray) :
    Atm ((w.setCell ⟨b, 0, none⟩ (.int .i64 a)).setCell ⟨b, 1, none⟩ (.string x)) b a x ∧ w.grownBy ((w.setCell ⟨b, 0, none⟩ (.int .i64 a)).setCell ⟨b, 1, none⟩ (.string x)) (some b) := by
  obtain ⟨c0, c1⟩ := h
  refine ⟨⟨?_, ?_⟩, ?_⟩
  · simp [go_sem, *]
  · simp [go_sem, *]
  · exact grown_then (grown_set _ _ _ _) _ _

/-- a state and an atom, made in new memory -/
def MadeTA (w : World) (e : Ending) (w' : World) : Prop :=
  ∃ (t : ByteArray) (j l : Bool) (c k : Int) (a : Int) (x : ByteArray), e = .returned (.tuple #[.agg #[.string t, .bool j, .bool l, .int .i64 c, .int .i64 k], .agg #[.int .i64 a, .string x]]) ∧ t.size ≤ 2010 ∧ x.size ≤ 24 ∧ Below w.heap.size w w'

/-- a state and a list of atoms, made in new memory -/
def MadeTL (w : World) (e : Ending) (w' : World) : Prop :=
  ∃ (t : ByteArray) (j l : Bool) (c k : Int) (lv : Value) (la : List (Int × ByteArray)), e = .returned (.tuple #[.agg #[.string t, .bool j, .bool l, .int .i64 c, .int .i64 k], lv]) ∧ t.size ≤ 2010 ∧ w'.ownsRow w.heap.size 44 2 lv la.length (folds la) ∧ la.length ≤ 700 ∧ (∀ p ∈ la, p.2.size ≤ 24) ∧ Below w.heap.size w w'

theorem St.grownR {w w' : World} {B : Nat} {r : Option Nat} {s : Pl.Sta} (h : St w B s) (hg : w.grownBy w' r) (hne : r ≠ some B) : St w' B s := by
  have hl := h.lt
  obtain ⟨c0, c1, c2, c3, c4, hf⟩ := h
  have e := hg.block B hl (fun h => hne h.symm)
  have hc : ∀ i, w'.cell? ⟨B, i, none⟩ = w.cell? ⟨B, i, none⟩ := fun i => by unfold World.cell?; simp only [e]
  have hz : ∀ i, w'.frozen? ⟨B, i, none⟩ = w.frozen? ⟨B, i, none⟩ := fun i => by unfold World.frozen?; simp only [e]
  exact ⟨by rw [hc]; exact c0, by rw [hc]; exact c1, by rw [hc]; exact c2, by rw [hc]; exact c3, by rw [hc]; exact c4, fun i => by rw [hz]; exact hf i⟩
theorem below_grownR {w X Y : World} {r : Option Nat} (h : Below w.heap.size w X) (hg : X.grownBy Y r) (hr : ∀ k, r = some k → w.heap.size ≤ k) : Below w.heap.size w Y := h.grown hg h.size hr
def Small24 (la : List (Int × ByteArray)) : Prop := ∀ p ∈ la, p.2.size ≤ 24
theorem Small24.snoc {la : List (Int × ByteArray)} {p : Int × ByteArray} (h : Small24 la) (hp : p.2.size ≤ 24) : Small24 (la ++ [p]) := by
  intro q hq
  rcases List.mem_append.1 hq with hq | hq
  · exact h q hq
  · rw [List.mem_singleton.1 hq]; exact hp
theorem own_grown {w w' : World} {base : Nat} {e : TypeId} {size : Nat} {v : Value} {n : Nat} {xs : List Value} {b : Nat} (h : w.ownsRow base e size v n xs) (hg : w.grownBy w' (some b)) (hb : b < base) : w'.ownsRow base e size v n xs := by
  refine h.kept hg ?_
  cases hv : v.ownBlock with
  | none => exact .inl rfl
  | some k => exact .inr (fun e => by have := (h.lt k hv).1; injection e with e; omega)

end Go.Proofs.Ytkbbcmbeafjpaab
