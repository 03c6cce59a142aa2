/-
  PLAIN: the tables of the best segmentation as they lie: costs and first pieces, filled from the end.
-/
import Derived.Test.YtkbbcmbeafjpaaaGreatDoorPlainFew
import Derived.Test.YtkbbcmbeafjpaaaGreatDoorSegB
import Derived.Laws.MakeOwn
namespace Go.Proofs.YtkbbcmbeafjpaaaGreatDoor
open Go.RowKit

def cN (t : T3) : Int := ((1000 * t.1 + t.2.1 : Nat) : Int)
def cM (t : T3) : Int := ((100 * t.1 + t.2.1 : Nat) : Int)
/-- a table of costs, filled from j on -/
def CTo (f : T3 → Int) (l : List Ent) (o : List Int) (xs : List Value) (j : Nat) : Prop := ∀ i, j ≤ i → i ≤ o.length → xs[i]? = some (.int .i64 (f (cst l o i)))
def PcAt (ys : List Value) (i : Nat) (p : Pc) : Prop := ys[i * 3]? = some (.int .i64 p.1) ∧ ys[i * 3 + 1]? = some (.int .i64 p.2.1) ∧ ys[i * 3 + 2]? = some (.string p.2.2)
def PTo (l : List Ent) (o : List Int) (ys : List Value) (j : Nat) : Prop := ∀ i, j ≤ i → i < o.length → PcAt ys i (pcOf l o i (cst l o i).2.2)
theorem CTo.set {f : T3 → Int} {l : List Ent} {o : List Int} {xs : List Value} {i : Nat} {v : Value} (h : CTo f l o xs (i + 1)) : CTo f l o (xs.set i v) (i + 1) := fun j h1 h2 => by
  rw [List.getElem?_set_ne (by omega)]; exact h j h1 h2
theorem CTo.done {f : T3 → Int} {l : List Ent} {o : List Int} {xs : List Value} {i : Nat} (h : CTo f l o xs (i + 1)) (hx : xs[i]? = some (.int .i64 (f (cst l o i)))) : CTo f l o xs i := fun j h1 h2 => by
  by_cases e : j = i
  · rw [e]; exact hx
  · exact h j (by omega) h2
theorem PTo.set {l : List Ent} {o : List Int} {ys : List Value} {i : Nat} {p : Pc} (h : PTo l o ys (i + 1)) : PTo l o (((ys.set (i * 3) (.int .i64 p.1)).set (i * 3 + 1) (.int .i64 p.2.1)).set (i * 3 + 2) (.string p.2.2)) (i + 1) := fun j h1 h2 => by
  obtain ⟨e1, e2, e3⟩ := h j h1 h2
  refine ⟨?_, ?_, ?_⟩
  · rw [List.getElem?_set_ne (by omega), List.getElem?_set_ne (by omega), List.getElem?_set_ne (by omega)]; exact e1
  · rw [List.getElem?_set_ne (by omega), List.getElem?_set_ne (by omega), List.getElem?_set_ne (by omega)]; exact e2
  · rw [List.getElem?_set_ne (by omega), List.getElem?_set_ne (by omega), List.getElem?_set_ne (by omega)]; exact e3
theorem PcAt.set {ys : List Value} {i : Nat} {p : Pc} (h : i * 3 + 3 ≤ ys.length) : PcAt (((ys.set (i * 3) (.int .i64 p.1)).set (i * 3 + 1) (.int .i64 p.2.1)).set (i * 3 + 2) (.string p.2.2)) i p := by
  refine ⟨?_, ?_, ?_⟩
  · rw [List.getElem?_set_ne (by omega), List.getElem?_set_ne (by omega), List.getElem?_set_self (by omega)]
  · rw [List.getElem?_set_ne (by omega), List.getElem?_set_self (by rw [List.length_set]; omega)]
  · rw [List.getElem?_set_self (by rw [List.length_set, List.length_set]; omega)]
theorem PTo.done {l : List Ent} {o : List Int} {ys : List Value} {i : Nat} (h : PTo l o ys (i + 1)) (hx : PcAt ys i (pcOf l o i (cst l o i).2.2)) : PTo l o ys i := fun j h1 h2 => by
  by_cases e : j = i
  · rw [e]; exact hx
  · exact h j (by omega) h2
theorem CTo.start {f : T3 → Int} (h0 : f (0, 0, 0) = 0) {l : List Ent} {o : List Int} {xs : List Value} (hx : xs[o.length]? = some (.int .i64 0)) : CTo f l o xs o.length := fun i h1 h2 => by
  obtain rfl : i = o.length := by omega
  rw [cst_end l o _ (Nat.le_refl _), h0]
  exact hx
theorem PTo.start (l : List Ent) (o : List Int) (ys : List Value) : PTo l o ys o.length := fun i h1 h2 => by omega
theorem own_make {w : World} {base : Nat} {E : TypeId} {size n : Nat} {z : Array Value} (hb : base ≤ w.heap.size) (hn : n ≤ maxLen) : (w.alloc (.cells (madeCells z (n * size)) E)).ownsRow base E size (.slice (some ⟨w.heap.size, 0, none⟩) n n) n (madeCells z (n * size)).toList :=
  ⟨by rw [Array.length_toList, size_madeCells], .inr ⟨w.heap.size, n, _, rfl, hb, heap_alloc_new w _, Nat.le_refl _, hn, by rw [size_madeCells], by rw [List.take_of_length_le (by rw [Array.length_toList, size_madeCells]; exact Nat.le_refl _)]⟩⟩
theorem run_ints (n : Nat) (hn : n ≤ 1048577) (W : World) : (Instr.makeSlice 25 (.int .i64 (n : Int)) (.int .i64 (n : Int))).run Tryz.prog W = .ok (.slice (some ⟨W.heap.size, 0, none⟩) n n) (W.alloc (.cells (madeCells #[.int .i64 0] (n * 1)) 3)) := by
  obtain ⟨i0, hi, hz0, hz1, hz2⟩ := info_parts Tryz.infoInt
  have h := run_make (P := Tryz.prog) W 25 3 i0 (.int .i64 0) Tryz.underlying25 hi hz0 .i64 .i64 (n : Int) (n : Int) (by omega) (Int.le_refl _) (by rw [hz2]; omega) (by omega)
  rw [hz1, Int.toNat_natCast] at h
  exact h
theorem run_pcs (n : Nat) (hn : n ≤ 1048577) (W : World) : (Instr.makeSlice 57 (.int .i64 (n : Int)) (.int .i64 (n : Int))).run Tryz.prog W = .ok (.slice (some ⟨W.heap.size, 0, none⟩) n n) (W.alloc (.cells (madeCells #[.int .i64 0, .int .i64 0, .string ⟨#[]⟩] (n * 3)) 127)) := by
  obtain ⟨i0, hi, hz0, hz1, hz2⟩ := info_parts Tryz.infoPiece
  have h := run_make (P := Tryz.prog) W 57 127 i0 (.agg #[.int .i64 0, .int .i64 0, .string ⟨#[]⟩]) Tryz.underlying57 hi hz0 .i64 .i64 (n : Int) (n : Int) (by omega) (Int.le_refl _) (by rw [hz2]; omega) (by omega)
  rw [hz1, Int.toNat_natCast] at h
  exact h
theorem made_zero (n k : Nat) (h : k < n * 1) : (madeCells #[.int .i64 0] (n * 1)).toList[k]? = some (.int .i64 0) := by
  unfold madeCells
  rw [Array.getElem?_toList, Array.getElem?_map, Array.getElem?_range, if_pos h]
  simp [Nat.mod_one]
theorem made_zero1 (n k : Nat) (h : k < n) : (madeCells #[.int .i64 0] n).toList[k]? = some (.int .i64 0) := by
  have := made_zero n k (by omega)
  rwa [Nat.mul_one] at this
/-- two rows made one after the other -/
theorem own_two {W0 : World} {E1 E2 : TypeId} {s1 s2 n1 n2 : Nat} {z1 z2 : Array Value} (h1 : n1 ≤ maxLen) (h2 : n2 ≤ maxLen) (c1 c2 : Array Value) (e1 : c1 = madeCells z1 (n1 * s1)) (e2 : c2 = madeCells z2 (n2 * s2)) :
    ((W0.alloc (.cells c1 E1)).alloc (.cells c2 E2)).ownsRow W0.heap.size E1 s1 (.slice (some ⟨W0.heap.size, 0, none⟩) n1 n1) n1 c1.toList ∧
    ((W0.alloc (.cells c1 E1)).alloc (.cells c2 E2)).ownsRow W0.heap.size E2 s2 (.slice (some ⟨W0.heap.size + 1, 0, none⟩) n2 n2) n2 c2.toList ∧
    Below W0.heap.size W0 ((W0.alloc (.cells c1 E1)).alloc (.cells c2 E2)) := by
  subst e1
  subst e2
  refine ⟨(own_make (Nat.le_refl _) h1).alloc _, ?_, Joins.below_alloc2 _ _ _⟩
  have h := own_make (w := W0.alloc (.cells (madeCells z1 (n1 * s1)) E1)) (base := W0.heap.size) (E := E2) (size := s2) (n := n2) (z := z2) (by rw [World.size_alloc]; omega) h2
  rw [World.size_alloc] at h
  exact h
theorem cN_bd {l : List Ent} {o : List Int} (ho : o.length ≤ 60) (i : Nat) : 0 ≤ cN (cst l o i) ∧ cN (cst l o i) ≤ 60060 := by
  have := cst_le l o _ i rfl
  unfold cN
  omega
theorem cN_scbd {l : List Ent} {o : List Int} (ho : o.length ≤ 60) {i n : Nat} (h : i < o.length) (hn : n ≤ 6) (hi : i + n ≤ o.length) : 0 ≤ cN (sc l o i n) ∧ cN (sc l o i n) ≤ 60060 := by
  have := sc_le l o i h n hn hi
  unfold cN
  omega
theorem cM_bd {l : List Ent} {o : List Int} (ho : o.length ≤ 60) (i : Nat) : 0 ≤ cM (cst l o i) ∧ cM (cst l o i) ≤ 6060 := by
  have := cst_le l o _ i rfl
  unfold cM
  omega
theorem cM_scbd {l : List Ent} {o : List Int} (ho : o.length ≤ 60) {i n : Nat} (h : i < o.length) (hn : n ≤ 6) (hi : i + n ≤ o.length) : 0 ≤ cM (sc l o i n) ∧ cM (sc l o i n) ≤ 6060 := by
  have := sc_le l o i h n hn hi
  unfold cM
  omega
theorem cN_zero {l : List Ent} {o : List Int} {i : Nat} (h : i < o.length) : cN (sc l o i 0) = cN (cst l o (i + 1)) + 1001 := by
  rw [sc_zero l o i h]
  unfold cN
  dsimp only
  omega
theorem cM_zero {l : List Ent} {o : List Int} {i : Nat} (h : i < o.length) : cM (sc l o i 0) = 101 + cM (cst l o (i + 1)) := by
  rw [sc_zero l o i h]
  unfold cM
  dsimp only
  omega
theorem sc_zero_n {l : List Ent} {o : List Int} {i : Nat} (h : i < o.length) : (sc l o i 0).2.2 = 0 := by rw [sc_zero l o i h]
theorem cN_yes {l : List Ent} {o : List Int} {i m : Nat} (h : i + (m + 1) ≤ o.length) (h1 : Pl.hasD l ((o.drop i).take (m + 1)) = true) (h2 : cN (cst l o (i + (m + 1))) + 1 ≤ cN (sc l o i m)) : cN (sc l o i (m + 1)) = cN (cst l o (i + (m + 1))) + 1 ∧ cM (sc l o i (m + 1)) = 1 + cM (cst l o (i + (m + 1))) ∧ (sc l o i (m + 1)).2.2 = m + 1 := by
  have h3 : 1000 * (cst l o (i + (m + 1))).1 + (cst l o (i + (m + 1))).2.1 + 1 ≤ 1000 * (sc l o i m).1 + (sc l o i m).2.1 := by unfold cN at h2; omega
  rw [sc_yes l o i m h h1 h3]
  unfold cN cM
  dsimp only
  exact ⟨by omega, by omega, rfl⟩
theorem cN_no {l : List Ent} {o : List Int} {i m : Nat} (h : i + (m + 1) ≤ o.length) (h1 : ¬ (Pl.hasD l ((o.drop i).take (m + 1)) = true ∧ cN (cst l o (i + (m + 1))) + 1 ≤ cN (sc l o i m))) : sc l o i (m + 1) = sc l o i m := by
  refine sc_no l o i m h (fun h2 => h1 ⟨h2.1, ?_⟩)
  have := h2.2
  unfold cN
  omega
/-- the two ways of weighing agree -/
theorem weigh {l : List Ent} {o : List Int} (ho : o.length ≤ 60) {i m : Nat} (h : i < o.length) (hm : m ≤ 6) (hi : i + (m + 1) ≤ o.length) : (1 + cM (cst l o (i + (m + 1))) ≤ cM (sc l o i m)) ↔ (cN (cst l o (i + (m + 1))) + 1 ≤ cN (sc l o i m)) := by
  have h1 := cst_le l o _ (i + (m + 1)) rfl
  have h2 := sc_le l o i h m hm (by omega)
  unfold cM cN
  omega
theorem pcOf_told (l : List Ent) (o : List Int) (i n : Nat) : pcOf l o i n = ((i : Int), ((pcN n : Nat) : Int), (pcOf l o i n).2.2) := by
  unfold pcOf pcN
  split <;> rfl
theorem pcOf_zero (l : List Ent) (o : List Int) (i : Nat) : pcOf l o i 0 = ((i : Int), 1, ⟨#[]⟩) := if_pos rfl
theorem pcOf_some (l : List Ent) (o : List Int) (i n : Nat) (h : 1 ≤ n) : pcOf l o i n = ((i : Int), (n : Int), Pl.textD l ((o.drop i).take n)) := if_neg (by omega)
def fewOut (l : List Ent) (o : List Int) : List Pc := if matOk l o = true then fews l o else []
theorem fewOut_len (l : List Ent) (o : List Int) : (fewOut l o).length ≤ o.length := by
  unfold fewOut
  split
  · exact fews_len l o
  · exact Nat.zero_le _

end Go.Proofs.YtkbbcmbeafjpaaaGreatDoor
