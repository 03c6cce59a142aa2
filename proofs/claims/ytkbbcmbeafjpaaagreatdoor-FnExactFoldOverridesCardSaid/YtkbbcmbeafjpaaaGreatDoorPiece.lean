/-
  CONTRACTS: CountUntranslated of the program and of the reference.
-/
import Derived.Test.YtkbbcmbeafjpaaaGreatDoorBasB
import Derived.Laws.AppendOwn
import Derived.OwnWalk
namespace Go.Proofs.YtkbbcmbeafjpaaaGreatDoor
open Go.RowKit

/-- how many of the first k elements meet p -/
def Pl.cntTo (p : Int × Int × ByteArray → Bool) (l : List (Int × Int × ByteArray)) (k : Nat) : Nat := ((l.take k).filter p).length
theorem Pl.cnt_zero (p : Int × Int × ByteArray → Bool) (l : List (Int × Int × ByteArray)) : Pl.cntTo p l 0 = 0 := by simp [Pl.cntTo]
theorem Pl.cnt_le (p : Int × Int × ByteArray → Bool) (l : List (Int × Int × ByteArray)) (k : Nat) : Pl.cntTo p l k ≤ k := by
  unfold Pl.cntTo
  exact Nat.le_trans (List.length_filter_le _ _) (by simp; omega)
theorem Pl.cnt_yes {p : Int × Int × ByteArray → Bool} {l : List (Int × Int × ByteArray)} {k : Nat} (h : k < l.length) (hp : p l[k] = true) : Pl.cntTo p l (k + 1) = Pl.cntTo p l k + 1 := by
  unfold Pl.cntTo
  rw [List.take_add_one, List.getElem?_eq_getElem h, List.filter_append, List.length_append]
  simp [hp]
theorem Pl.cnt_no {p : Int × Int × ByteArray → Bool} {l : List (Int × Int × ByteArray)} {k : Nat} (h : k < l.length) (hp : p l[k] = false) : Pl.cntTo p l (k + 1) = Pl.cntTo p l k := by
  unfold Pl.cntTo
  rw [List.take_add_one, List.getElem?_eq_getElem h, List.filter_append, List.length_append]
  simp [hp]
/-- the piece has no text -/
def Pl.bare (q : Int × Int × ByteArray) : Bool := q.2.2.toList.isEmpty

/-- an append of one piece to a row of the call's own -/
theorem app_piece {ops : Array Oper} {rest : List Oper} {o : Oper} {a : Act} {w : World} {Q : Exit → Act → World → Prop} (hgd : o.guard = none) (s x : Operand)
    (ho : o.op = .call { callee := .builtin .append, args := #[s, x], argTypes := #[57, 57] })
    (base : Nat) (v : Value) (n : Nat) (xs : List Value) (hs : a.eval s = v) (hown : w.ownsRow base 127 3 v n xs)
    (ad : Addr) (c : Nat) (qa qm : Int) (qt : ByteArray) (hx : a.eval x = .slice (some ad) 1 c) (hnews : ∀ j u, [Value.int .i64 qa, .int .i64 qm, .string qt][j]? = some u → w.cell? (ad.add j) = some u)
    (hnm : n + 1 ≤ 4194304) (hbase : base ≤ w.heap.size)
    (h : ∀ v' w', w'.ownsRow base 127 3 v' (n + 1) (xs ++ [Value.int .i64 qa, .int .i64 qm, .string qt]) → w.grownBy w' v.ownBlock → wpList Tryz.prog ops Q rest (a.put o.dst v') w') : wpList Tryz.prog ops Q (o :: rest) a w := by
  obtain ⟨i0, hi, hz0, hz1, hz2⟩ := info_parts Tryz.infoPiece
  exact wpList_append_own w hgd s x 57 ho base 127 i0 (.agg #[.int .i64 0, .int .i64 0, .string ⟨#[]⟩]) 3 32 Tryz.underlying57 hi hz0 hz1 hz2 rfl (by decide) v n xs hs hown ad 1 c [Value.int .i64 qa, .int .i64 qm, .string qt] hx rfl hnews
    (by intro u hu; simp only [List.mem_cons, List.not_mem_nil, or_false] at hu; rcases hu with rfl | rfl | rfl <;> rfl)
    (by unfold maxLen; omega) (by omega) hbase (fun v' w' h1 h2 _ => h v' w' h1 h2)

theorem piece_news (w : World) (qa qm : Int) (qt : ByteArray) (E : TypeId) : ∀ j u, [Value.int .i64 qa, .int .i64 qm, .string qt][j]? = some u → (w.alloc (.cells #[.int .i64 qa, .int .i64 qm, .string qt] E)).cell? ((⟨w.heap.size, 0, none⟩ : Addr).add j) = some u := by
  intro j u hj
  rw [Addr.add_lit, Nat.zero_add, World.cell?_alloc_mark]
  simpa using hj

theorem below_pastP {W w' : World} {o : Obj} (h1 : Below (W.alloc o).heap.size (W.alloc o) w') : Below W.heap.size W w' :=
  (Joins.below_alloc1 W o).trans (h1.mono (Joins.below_alloc1 W o).size)

theorem row_form {w : World} {base size n : Nat} {e : TypeId} {v : Value} {xs : List Value} (h : w.ownsRow base e size v n xs) : ∃ ao co, v = .slice ao n co := by
  rcases Joins.ownsRow_forms h with ⟨h1, h2⟩ | ⟨g, c, h1⟩
  · exact ⟨none, 0, by rw [h1, h2]⟩
  · exact ⟨_, c, h1⟩

end Go.Proofs.YtkbbcmbeafjpaaaGreatDoor
