/-
  CONTRACTS: what the laws over states and atoms have in common: the size of a state, the arguments as they lie.
-/
import Derived.Test.YtdidgaibgkdjoaaGreatDoorStAtom
import Derived.Test.YtdidgaibgkdjoaaGreatDoorAtomS
namespace Go.Proofs.YtdidgaibgkdjoaaGreatDoor
open Go.RowKit

/-- a state and, behind it, an atom -/
def Two (w : World) (b : Nat) (s : Pl.Sta) (a : Int) (x : ByteArray) : Prop := St w b s ∧ Atm w (b + 1) a x
theorem Two.keep {w w' : World} {b : Nat} {s : Pl.Sta} {a : Int} {x : ByteArray} (h : Two w b s a x) (hb : Below w.heap.size w w') : Two w' b s a x := ⟨h.1.keep hb, h.2.keep hb⟩
theorem Two.drew {w : World} {b : Nat} {s : Pl.Sta} {a : Int} {x : ByteArray} (h : Two w b s a x) : Two w.drew b s a x := h
theorem Two.alloc {w : World} {b : Nat} {s : Pl.Sta} {a : Int} {x : ByteArray} (h : Two w b s a x) (o : Obj) : Two (w.alloc o) b s a x := ⟨h.1.alloc o, h.2.alloc o⟩
theorem Two.cells {w : World} {b : Nat} {t : ByteArray} {j g : Bool} {c k : Int} {a : Int} {x : ByteArray} (h : Two w b ⟨t, j, g, c, k⟩ a x) :
    w.cell? ⟨b, 0, none⟩ = some (.string t) ∧ w.cell? ⟨b, 1, none⟩ = some (.bool j) ∧ w.cell? ⟨b, 2, none⟩ = some (.bool g) ∧ w.cell? ⟨b, 3, none⟩ = some (.int .i64 c) ∧ w.cell? ⟨b, 4, none⟩ = some (.int .i64 k) ∧ w.cell? ⟨b + 1, 0, none⟩ = some (.int .i64 a) ∧ w.cell? ⟨b + 1, 1, none⟩ = some (.string x) :=
  ⟨h.1.1, h.1.2.1, h.1.2.2.1, h.1.2.2.2.1, h.1.2.2.2.2.1, h.2.1, h.2.2⟩
theorem laid2 (w : World) (t : ByteArray) (j g : Bool) (c k : Int) (a : Int) (x : ByteArray) (T U : TypeId) :
    Two ((w.alloc (.cells #[.string t, .bool j, .bool g, .int .i64 c, .int .i64 k] T)).alloc (.cells #[.int .i64 a, .string x] U)) w.heap.size ⟨t, j, g, c, k⟩ a x := by
  refine ⟨(St.new w t j g c k T).alloc _, ?_⟩
  have h := (Atm.new (w.alloc (.cells #[.string t, .bool j, .bool g, .int .i64 c, .int .i64 k] T)) a x U)
  rw [size1] at h
  exact h
theorem laid2_below (w : World) (o1 o2 : Obj) : Below w.heap.size w ((w.alloc o1).alloc o2) :=
  ((Below.refl _ _).alloc (Nat.le_refl _) _).alloc (by rw [size1]; omega) _

theorem Two.grown {w w' : World} {b B : Nat} {s : Pl.Sta} {a : Int} {x : ByteArray} (h : Two w B s a x) (hg : w.grownBy w' (some b)) (h1 : B ≠ b) (h2 : B + 1 ≠ b) : Two w' B s a x :=
  ⟨h.1.grown hg h1, grown_cell hg h2 h.2.1, grown_cell hg h2 h.2.2⟩
/-- a state written into its block -/
theorem St.set {w : World} {b : Nat} {s0 : Pl.Sta} (h : St w b s0) (s : Pl.Sta) :
    St (((((w.setCell ⟨b, 0, none⟩ (.string s.t)).setCell ⟨b, 1, none⟩ (.bool s.j)).setCell ⟨b, 2, none⟩ (.bool s.g)).setCell ⟨b, 3, none⟩ (.int .i64 s.c)).setCell ⟨b, 4, none⟩ (.int .i64 s.k)) b s ∧
    w.grownBy (((((w.setCell ⟨b, 0, none⟩ (.string s.t)).setCell ⟨b, 1, none⟩ (.bool s.j)).setCell ⟨b, 2, none⟩ (.bool s.g)).setCell ⟨b, 3, none⟩ (.int .i64 s.c)).setCell ⟨b, 4, none⟩ (.int .i64 s.k)) (some b) := by
  obtain ⟨c0, c1, c2, c3, c4, hf⟩ := h
  have hf : ∀ i, w.frozen? ⟨b, i, none⟩ = false := hf
  refine ⟨⟨?_, ?_, ?_, ?_, ?_, fun i => ?_⟩, ?_⟩
  · simp [go_sem, *]
  · simp [go_sem, *]
  · simp [go_sem, *]
  · simp [go_sem, *]
  · simp [go_sem, *]
  · simp [go_sem, *]
  · exact grown_then (grown_then (grown_then (grown_then (grown_set _ _ _ _) _ _) _ _) _ _) _ _
theorem newZ {p q : World} {T : TypeId} (hb : Below (p.alloc (.cells #[.string ⟨#[]⟩, .bool false, .bool false, .int .i64 0, .int .i64 0] T)).heap.size (p.alloc (.cells #[.string ⟨#[]⟩, .bool false, .bool false, .int .i64 0, .int .i64 0] T)) q) : St q p.heap.size ⟨⟨#[]⟩, false, false, 0, 0⟩ := (St.new p ⟨#[]⟩ false false 0 0 T).keep hb
theorem newZd {p q : World} {T : TypeId} (hb : Below (p.alloc (.cells #[.string ⟨#[]⟩, .bool false, .bool false, .int .i64 0, .int .i64 0] T)).drew.heap.size (p.alloc (.cells #[.string ⟨#[]⟩, .bool false, .bool false, .int .i64 0, .int .i64 0] T)).drew q) : St q p.heap.size ⟨⟨#[]⟩, false, false, 0, 0⟩ := (St.new p ⟨#[]⟩ false false 0 0 T).drew.keep hb
theorem below_nx {w X Y : World} (h : Below w.heap.size w X) (hb : Below X.heap.size X Y) : Below w.heap.size w Y := h.trans (hb.mono h.size)
theorem below_into {w X Y : World} {b : Nat} (h : Below w.heap.size w X) (hg : X.grownBy Y (some b)) (hb : w.heap.size ≤ b) : Below w.heap.size w Y := h.grown hg h.size (fun q hq => by injection hq with hq; omega)

end Go.Proofs.YtdidgaibgkdjoaaGreatDoor
