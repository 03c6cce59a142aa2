/-
  PLAIN: the best segmentation (fewest untranslated strokes, then fewest pieces), place by place from the end.
  CONTRACTS: CountUntranslated of the program and of the reference.
  CONTRACTS: the segmentation by longest match, of the program and of the reference.
  PLAIN: the tables of the best segmentation as they lie: costs and first pieces, filled from the end.
  CONTRACT: FewestPieces of the program.
  CONTRACT: FewestPieces of the reference.
  PLAIN: a slice of the call's own whose elements hold slices of the call's own, made longer by one.
-/
import Derived.Test.YtdidgaibgkdjoaaGreatDoorPlainSeg
import Derived.Test.YtdidgaibgkdjoaaGreatDoorBasB
import Derived.Laws.AppendOwn
import Derived.OwnWalk
import Derived.Test.YtdidgaibgkdjoaaGreatDoorGrD
import Derived.Laws.MakeOwn
import Derived.Deep.DeepCutAuto
namespace Go.Proofs.YtdidgaibgkdjoaaGreatDoor
open Go.RowKit

/-- untranslated strokes, pieces, and the strokes of the first piece (0: an untranslated stroke) -/
abbrev T3 := Nat × Nat × Nat
def t3 (T : List T3) (k : Nat) : T3 := T.getD k (0, 0, 0)
/-- the best beginning at i with at most n strokes; T holds the best from i + 1 on -/
def scanC (l : List Ent) (o : List Int) (i : Nat) (T : List T3) : Nat → T3
  | 0 => ((t3 T 0).1 + 1, (t3 T 0).2.1 + 1, 0)
  | n + 1 => if Pl.hasD l ((o.drop i).take (n + 1)) = true ∧ 1000 * (t3 T n).1 + (t3 T n).2.1 + 1 ≤ 1000 * (scanC l o i T n).1 + (scanC l o i T n).2.1 then ((t3 T n).1, (t3 T n).2.1 + 1, n + 1) else scanC l o i T n
/-- the best from each of the last k places on, and from the end on -/
def costs (l : List Ent) (o : List Int) : Nat → List T3
  | 0 => [(0, 0, 0)]
  | k + 1 => scanC l o (o.length - (k + 1)) (costs l o k) (min 6 (k + 1)) :: costs l o k
/-- the best from the place i on -/
def cst (l : List Ent) (o : List Int) (i : Nat) : T3 := t3 (costs l o (o.length - i)) 0
theorem costs_len (l : List Ent) (o : List Int) : ∀ k, (costs l o k).length = k + 1
  | 0 => rfl
  | k + 1 => by show (costs l o k).length + 1 = _; rw [costs_len l o k]
theorem costs_at (l : List Ent) (o : List Int) : ∀ k j, j ≤ k → t3 (costs l o k) j = t3 (costs l o (k - j)) 0
  | k, 0, _ => rfl
  | 0, j + 1, h => absurd h (by omega)
  | k + 1, j + 1, h => by
    rw [show k + 1 - (j + 1) = k - j by omega]
    exact costs_at l o k j (by omega)
/-- the candidates at i are the best behind it -/
theorem cst_at (l : List Ent) (o : List Int) (i n : Nat) (h : i + (n + 1) ≤ o.length) : t3 (costs l o (o.length - (i + 1))) n = cst l o (i + (n + 1)) := by
  rw [costs_at l o _ n (by omega)]
  unfold cst
  rw [show o.length - (i + 1) - n = o.length - (i + (n + 1)) by omega]
theorem cst_end (l : List Ent) (o : List Int) (i : Nat) (h : o.length ≤ i) : cst l o i = (0, 0, 0) := by
  unfold cst
  rw [show o.length - i = 0 by omega]
  rfl
/-- the best at i with at most n strokes in its first piece -/
def sc (l : List Ent) (o : List Int) (i n : Nat) : T3 := scanC l o i (costs l o (o.length - (i + 1))) n
theorem cst_sc (l : List Ent) (o : List Int) (i : Nat) (h : i < o.length) : cst l o i = sc l o i (min 6 (o.length - i)) := by
  unfold cst sc
  obtain ⟨k, hk⟩ : ∃ k, o.length - i = k + 1 := ⟨o.length - i - 1, by omega⟩
  rw [hk, show o.length - (i + 1) = k by omega]
  show scanC l o (o.length - (k + 1)) _ _ = _
  rw [show o.length - (k + 1) = i by omega]
theorem sc_zero (l : List Ent) (o : List Int) (i : Nat) (h : i < o.length) : sc l o i 0 = ((cst l o (i + 1)).1 + 1, (cst l o (i + 1)).2.1 + 1, 0) := by
  unfold sc
  show ((t3 _ 0).1 + 1, (t3 _ 0).2.1 + 1, 0) = _
  rw [cst_at l o i 0 (by omega)]
theorem sc_yes (l : List Ent) (o : List Int) (i n : Nat) (h : i + (n + 1) ≤ o.length) (h1 : Pl.hasD l ((o.drop i).take (n + 1)) = true) (h2 : 1000 * (cst l o (i + (n + 1))).1 + (cst l o (i + (n + 1))).2.1 + 1 ≤ 1000 * (sc l o i n).1 + (sc l o i n).2.1) :
    sc l o i (n + 1) = ((cst l o (i + (n + 1))).1, (cst l o (i + (n + 1))).2.1 + 1, n + 1) := by
  rw [← cst_at l o i n h] at h2 ⊢
  unfold sc at h2 ⊢
  conv => lhs; unfold scanC
  rw [if_pos ⟨h1, h2⟩]
theorem sc_no (l : List Ent) (o : List Int) (i n : Nat) (h : i + (n + 1) ≤ o.length) (h1 : ¬ (Pl.hasD l ((o.drop i).take (n + 1)) = true ∧ 1000 * (cst l o (i + (n + 1))).1 + (cst l o (i + (n + 1))).2.1 + 1 ≤ 1000 * (sc l o i n).1 + (sc l o i n).2.1)) :
    sc l o i (n + 1) = sc l o i n := by
  rw [← cst_at l o i n h] at h1
  unfold sc at h1 ⊢
  conv => lhs; unfold scanC
  rw [if_neg h1]
/-- bounds: no more of anything than strokes -/
theorem cst_le (l : List Ent) (o : List Int) : ∀ k i, o.length - i = k → (cst l o i).1 ≤ k ∧ (cst l o i).2.1 ≤ k ∧ (cst l o i).2.2 ≤ k ∧ (cst l o i).2.2 ≤ 6 := by
  intro k
  induction k using Nat.strongRecOn with
  | ind k ih =>
    intro i hi
    rcases Nat.lt_or_ge i o.length with h | h
    · rw [cst_sc l o i h]
      have H : ∀ n, n ≤ min 6 (o.length - i) → (sc l o i n).1 ≤ k ∧ (sc l o i n).2.1 ≤ k ∧ (sc l o i n).2.2 ≤ n := by
        intro n
        induction n with
        | zero =>
          intro _
          rw [sc_zero l o i h]
          have := ih (k - 1) (by omega) (i + 1) (by omega)
          exact ⟨by dsimp only; omega, by dsimp only; omega, Nat.le_refl _⟩
        | succ n ihn =>
          intro hn
          have h1 := ihn (by omega)
          by_cases hc : Pl.hasD l ((o.drop i).take (n + 1)) = true ∧ 1000 * (cst l o (i + (n + 1))).1 + (cst l o (i + (n + 1))).2.1 + 1 ≤ 1000 * (sc l o i n).1 + (sc l o i n).2.1
          · rw [sc_yes l o i n (by omega) hc.1 hc.2]
            have := ih (k - (n + 1)) (by omega) (i + (n + 1)) (by omega)
            exact ⟨by dsimp only; omega, by dsimp only; omega, Nat.le_refl _⟩
          · rw [sc_no l o i n (by omega) hc]
            exact ⟨h1.1, h1.2.1, by omega⟩
      have h2 := H (min 6 (o.length - i)) (Nat.le_refl _)
      exact ⟨h2.1, h2.2.1, by omega, by omega⟩
    · rw [cst_end l o i h]
      exact ⟨Nat.zero_le _, Nat.zero_le _, Nat.zero_le _, Nat.zero_le _⟩
theorem sc_le (l : List Ent) (o : List Int) (i : Nat) (h : i < o.length) : ∀ n, n ≤ 6 → i + n ≤ o.length → (sc l o i n).1 ≤ o.length - i ∧ (sc l o i n).2.1 ≤ o.length - i := by
  intro n
  induction n with
  | zero =>
    intro _ _
    rw [sc_zero l o i h]
    have := cst_le l o _ (i + 1) rfl
    exact ⟨by dsimp only; omega, by dsimp only; omega⟩
  | succ n ihn =>
    intro hn hn2
    have h1 := ihn (by omega) (by omega)
    by_cases hc : Pl.hasD l ((o.drop i).take (n + 1)) = true ∧ 1000 * (cst l o (i + (n + 1))).1 + (cst l o (i + (n + 1))).2.1 + 1 ≤ 1000 * (sc l o i n).1 + (sc l o i n).2.1
    · rw [sc_yes l o i n hn2 hc.1 hc.2]
      have := cst_le l o _ (i + (n + 1)) rfl
      exact ⟨by dsimp only; omega, by dsimp only; omega⟩
    · rw [sc_no l o i n hn2 hc]
      exact h1

/-- the piece that begins at i, its first piece having n strokes (0: none) -/
def pcOf (l : List Ent) (o : List Int) (i n : Nat) : Pc := if n = 0 then ((i : Int), 1, ⟨#[]⟩) else ((i : Int), (n : Int), Pl.textD l ((o.drop i).take n))
def pcN (n : Nat) : Nat := if n = 0 then 1 else n
/-- the pieces of the best segmentation from the place a on -/
def fewL (l : List Ent) (o : List Int) : Nat → Nat → List Pc
  | 0, _ => []
  | f + 1, a => if a < o.length then pcOf l o a (cst l o a).2.2 :: fewL l o f (a + pcN (cst l o a).2.2) else []
def fews (l : List Ent) (o : List Int) : List Pc := fewL l o o.length 0
theorem fewL_fuel {l : List Ent} {o : List Int} : ∀ (f g a : Nat), o.length - a ≤ f → o.length - a ≤ g → fewL l o f a = fewL l o g a
  | 0, 0, _, _, _ => rfl
  | 0, g + 1, a, h, _ => by unfold fewL; rw [if_neg (by omega)]
  | f + 1, 0, a, _, h => by unfold fewL; rw [if_neg (by omega)]
  | f + 1, g + 1, a, h1, h2 => by
    unfold fewL
    by_cases h : a < o.length
    · rw [if_pos h, if_pos h]
      have hc : 1 ≤ pcN (cst l o a).2.2 := by unfold pcN; split <;> omega
      rw [fewL_fuel f g (a + pcN (cst l o a).2.2) (by omega) (by omega)]
    · rw [if_neg h, if_neg h]
def FewTo (l : List Ent) (o : List Int) (out : List Pc) (a : Nat) : Prop := fews l o = out ++ fewL l o (o.length - a) a ∧ out.length ≤ a
theorem few_start (l : List Ent) (o : List Int) : FewTo l o [] 0 := ⟨rfl, Nat.le_refl _⟩
theorem few_step {l : List Ent} {o : List Int} {out : List Pc} {a : Nat} (h : FewTo l o out a) (ha : a < o.length) : FewTo l o (out ++ [pcOf l o a (cst l o a).2.2]) (a + pcN (cst l o a).2.2) := by
  obtain ⟨h3, h4⟩ := h
  have h1 : 1 ≤ pcN (cst l o a).2.2 := by unfold pcN; split <;> omega
  refine ⟨?_, by rw [List.length_append, List.length_singleton]; omega⟩
  obtain ⟨f, hf⟩ : ∃ f, o.length - a = f + 1 := ⟨o.length - a - 1, by omega⟩
  rw [h3, hf]
  conv => lhs; unfold fewL
  rw [if_pos ha, List.append_assoc, fewL_fuel f (o.length - (a + pcN (cst l o a).2.2)) (a + pcN (cst l o a).2.2) (by omega) (Nat.le_refl _)]
  rfl
theorem few_done {l : List Ent} {o : List Int} {out : List Pc} {a : Nat} (h : FewTo l o out a) (ha : o.length ≤ a) : out = fews l o := by
  rw [h.1, show o.length - a = 0 by omega]
  show out = out ++ []
  rw [List.append_nil]
theorem few_next_le (l : List Ent) (o : List Int) (a : Nat) (h : a < o.length) : 1 ≤ pcN (cst l o a).2.2 ∧ a + pcN (cst l o a).2.2 ≤ o.length := by
  have := cst_le l o _ a rfl
  unfold pcN
  split <;> omega
theorem fews_len_aux {l : List Ent} {o : List Int} : ∀ f a, (fewL l o f a).length ≤ f
  | 0, _ => Nat.le_refl _
  | f + 1, a => by
    unfold fewL
    split
    · rw [List.length_cons]; have := fews_len_aux (l := l) (o := o) f (a + pcN (cst l o a).2.2); omega
    · exact Nat.zero_le _
theorem fews_len (l : List Ent) (o : List Int) : (fews l o).length ≤ o.length := fews_len_aux _ _

end Go.Proofs.YtdidgaibgkdjoaaGreatDoor

namespace Go.Proofs.YtdidgaibgkdjoaaGreatDoor
open Go.RowKit

/-- how many of the first k elements meet p -/
def Pl.cntTo (p : Int × Int × ByteArray → Bool) (l : List (Int × Int × ByteArray)) (k : Nat) : Nat := ((l.take k).filter p).length
theorem Pl.cnt_zero (p : Int × Int × ByteArray → Bool) (l : List (Int × Int × ByteArray)) : Pl.cntTo p l 0 = 0 := by simp [Pl.cntTo]
theorem Pl.cnt_le (p : Int × Int × ByteArray → Bool) (l : List (Int × Int × ByteArray)) (k : Nat) : Pl.cntTo p l k ≤ k := by
  unfold Pl.cntTo
  exact Nat.le_trans (List.length_filter_le _ _) (by simp; omega)
theorem Pl.cnt_yes {p : Int × Int × ByteArray → Bool} {l : List (Int × Int × ByteArray)} {k : Nat} (h : k < l.length) (hp : p l[k] = true) : Pl.cntTo p l (k + 1) = Pl.cntTo p l k + 1 := by
  unfold Pl.cntTo
  rw [List.take_add_one, List.getElem?_eq_getElem h, List.filter_append, List.length_append]
  simp [hp]
theorem Pl.cnt_no {p : Int × Int × ByteArray → Bool} {l : List (Int × Int × ByteArray)} {k : Nat} (h : k < l.length) (hp : p l[k] = false) : Pl.cntTo p l (k + 1) = Pl.cntTo p l k := by
  unfold Pl.cntTo
  rw [List.take_add_one, List.getElem?_eq_getElem h, List.filter_append, List.length_append]
  simp [hp]
/-- the piece has no text -/
def Pl.bare (q : Int × Int × ByteArray) : Bool := q.2.2.toList.isEmpty

/-- an append of one piece to a row of the call's own -/
theorem app_piece {ops : Array Oper} {rest : List Oper} {o : Oper} {a : Act} {w : World} {Q : Exit → Act → World → Prop} (hgd : o.guard = none) (s x : Operand)
    (ho : o.op = .call { callee := .builtin .append, args := #[s, x], argTypes := #[118, 118] })
    (base : Nat) (v : Value) (n : Nat) (xs : List Value) (hs : a.eval s = v) (hown : w.ownsRow base 166 3 v n xs)
    (ad : Addr) (c : Nat) (qa qm : Int) (qt : ByteArray) (hx : a.eval x = .slice (some ad) 1 c) (hnews : ∀ j u, [Value.int .i64 qa, .int .i64 qm, .string qt][j]? = some u → w.cell? (ad.add j) = some u)
    (hnm : n + 1 ≤ 4194304) (hbase : base ≤ w.heap.size)
    (h : ∀ v' w', w'.ownsRow base 166 3 v' (n + 1) (xs ++ [Value.int .i64 qa, .int .i64 qm, .string qt]) → w.grownBy w' v.ownBlock → wpList Tryz.prog ops Q rest (a.put o.dst v') w') : wpList Tryz.prog ops Q (o :: rest) a w := by
  obtain ⟨i0, hi, hz0, hz1, hz2⟩ := info_parts Tryz.infoPiece
  exact wpList_append_own w hgd s x 118 ho base 166 i0 (.agg #[.int .i64 0, .int .i64 0, .string ⟨#[]⟩]) 3 32 Tryz.underlying118 hi hz0 hz1 hz2 rfl (by decide) v n xs hs hown ad 1 c [Value.int .i64 qa, .int .i64 qm, .string qt] hx rfl hnews
    (by intro u hu; simp only [List.mem_cons, List.not_mem_nil, or_false] at hu; rcases hu with rfl | rfl | rfl <;> rfl)
    (by unfold maxLen; omega) (by omega) hbase (fun v' w' h1 h2 _ => h v' w' h1 h2)

theorem piece_news (w : World) (qa qm : Int) (qt : ByteArray) (E : TypeId) : ∀ j u, [Value.int .i64 qa, .int .i64 qm, .string qt][j]? = some u → (w.alloc (.cells #[.int .i64 qa, .int .i64 qm, .string qt] E)).cell? ((⟨w.heap.size, 0, none⟩ : Addr).add j) = some u := by
  intro j u hj
  rw [Addr.add_lit, Nat.zero_add, World.cell?_alloc_mark]
  simpa using hj

theorem below_pastP {W w' : World} {o : Obj} (h1 : Below (W.alloc o).heap.size (W.alloc o) w') : Below W.heap.size W w' :=
  (Joins.below_alloc1 W o).trans (h1.mono (Joins.below_alloc1 W o).size)

theorem row_form {w : World} {base size n : Nat} {e : TypeId} {v : Value} {xs : List Value} (h : w.ownsRow base e size v n xs) : ∃ ao co, v = .slice ao n co := by
  rcases Joins.ownsRow_forms h with ⟨h1, h2⟩ | ⟨g, c, h1⟩
  · exact ⟨none, 0, by rw [h1, h2]⟩
  · exact ⟨_, c, h1⟩

end Go.Proofs.YtdidgaibgkdjoaaGreatDoor

namespace Go.Proofs.YtdidgaibgkdjoaaGreatDoor
open Go.RowKit

theorem pieces_snoc (L : List Pc) (p : Pc) : pieces (L ++ [p]) = pieces L ++ [Value.int .i64 p.1, .int .i64 p.2.1, .string p.2.2] := by
  induction L with
  | nil => rfl
  | cons q r ih => simp only [List.cons_append, pieces, ih]
theorem piece_newsB (w : World) (qa qm : Int) (qt : ByteArray) (E : TypeId) (b : Nat) (hb : b = w.heap.size) : ∀ j u, [Value.int .i64 qa, .int .i64 qm, .string qt][j]? = some u → (w.alloc (.cells #[.int .i64 qa, .int .i64 qm, .string qt] E)).cell? ((⟨b, 0, none⟩ : Addr).add j) = some u := by
  subst hb
  exact piece_news w qa qm qt E
theorem own_grown_cell {w w' : World} {base : Nat} {E : TypeId} {size n b i : Nat} {v u : Value} {xs : List Value} (hg : w.grownBy w' v.ownBlock) (_ho : w.ownsRow base E size v n xs) (h : w.cell? ⟨b, i, none⟩ = some u) (hb : ∀ g, v.ownBlock = some g → g ≠ b) : w'.cell? ⟨b, i, none⟩ = some u :=
  hg.cell h (fun e => hb b e.symm rfl)
/-- pieces laid anew -/
def RetPcs (w : World) (L : List Pc) (y : Bool) (e : Ending) (w' : World) : Prop :=
  ∃ v, e = .returned (.tuple #[v, .bool y]) ∧ w'.ownsRow w.heap.size 166 3 v L.length (pieces L) ∧ Below w.heap.size w w'

set_option maxRecDepth 20000 in
set_option maxHeartbeats 3200000 in
theorem segment_any (v vo : Value) (l : List Ent) (o : List Int) (w : World) (hr : Ents w v l) (hl : l.length ≤ 1048576) (hs : ∀ p ∈ l, p.1.length ≤ 1048576) (ho : Rows w vo o.length 1 (ints o)) (hol : o.length ≤ 1048576) :
    Calls Tryz.prog 84 #[.agg #[v], vo] w (RetRow 166 3 w.heap.size w (segs l o).length (pieces (segs l o))) := by
  have HB0 := Lib.hid (Joins.below_alloc1 w (.cells #[v] 26))
  have HE := Lib.hid (hr.keep HB0.out)
  have HO := Lib.hid (ho.keep HB0.out)
  have HF := Lib.hid hs
  obtain ⟨a, cap, rfl, _, _⟩ := ent_form hr
  obtain ⟨ao, co, rfl, hco, _⟩ := rows_form ho
  clear hr hs ho
  have HC := Lib.hid (show (w.alloc (.cells #[.slice a l.length cap] 26)).cell? ⟨w.heap.size, 0, none⟩ = some (.slice a l.length cap) by simp [go_sem])
  have HM := Lib.hid (fun (b : Nat) W h1 h2 hb => matchAt_any (.slice a l.length cap) (.slice ao o.length co) l o b W h1 hl HF.out h2 hol hb)
  go_enter Tryz.func84, Tryz.ntmps84
  go_upto_region 1 with fail
  obtain ⟨W0, hW0⟩ : ∃ W0, W0 = w.alloc (.cells #[.slice a l.length cap] 26) := ⟨_, rfl⟩
  rw [← hW0] at HB0 HE HC HO ⊢
  have HW := Lib.hid (show w.heap.size ≤ W0.heap.size from HB0.out.size)
  clear hW0
  have HR0 := Lib.hid (World.ownsRow_made (base := W0.heap.size) (e := 166) (size := 3) W0 #[] 0 (Nat.le_refl _) (by unfold maxLen; omega) rfl)
  go_upto_region 3 with fail
  go_loopw [5, 6] (fun out f wr => ∃ (L : List Pc) (b : Nat), b ≤ o.length ∧ f = .int .i64 b ∧ Hid (wr.ownsRow W0.heap.size 166 3 out L.length (pieces L)) ∧ Hid (SegTo l o L b) ∧ Below W0.heap.size W0 wr) (fun _ f _ => o.length - (intOf f).toNat)
  case atStart => exact ⟨[], 0, Nat.zero_le _, rfl, HR0, Lib.hid (seg_start l o), Joins.below_alloc1 _ _⟩
  clear HR0
  case round =>
    obtain ⟨L, b, hb, rfl, HL, HT, hbw⟩ := hrel
    have HB := Lib.hid hbw; clear hbw
    obtain ⟨al, cl, rfl⟩ := row_formD HL.out
    by_cases hlt : b < o.length
    · have hki : (b : Int) < (o.length : Int) := by omega
      obtain ⟨c, hc, hc1, hc2⟩ := matD_told l o b hlt 6
      have HS := Lib.hid (seg_step HT.out hlt (by rw [hc]) hc1 hc2)
      have HLL := Lib.hid HT.out.2
      have q0 := keepcT HB.out HC.out
      have HM1 := Lib.hid (HM.out b wr (HE.out.keep HB.out) (HO.out.keep HB.out) hlt)
      have HQ := Lib.hid hc
      generalize matD l o b 6 = p at HM1 HQ HS hc
      obtain ⟨pf, pc, pt⟩ := p
      cases hc
      clear HT
      have hll : L.length ≤ b := HLL.out
      go_wp2_with (first
        | (at_builtin; have HL2 := HL1; refine app_piece rfl _ _ rfl W0.heap.size _ L.length (pieces L) rfl ((HL2.out.alloc _).alloc _) ⟨_, 0, none⟩ 1 (b : Int) (c : Int) pt rfl (piece_newsB _ _ _ _ _ _ (World.size_alloc _ _).symm) (by omega) (by have := HB1.out.size; simp; omega) ?_; intro v2 w2 hown2 hg2; have pc1 := own_grown_cell hg2 ((HL2.out.alloc (.cells #[.int .i64 (b : Int), .int .i64 (c : Int), .string pt] 166)).alloc (.cells #[.int .i64 (b : Int), .int .i64 (c : Int), .string pt] 166)) (b := w1.heap.size) (i := 1) (u := .int .i64 (c : Int)) (by simp [go_sem]) (fun g hg e => absurd (HL2.out.lt g hg).2 (by omega)))
        | (go_at_call 134; (with_reducible refine HM1.out.mono ?_); rintro e w1 ⟨rfl, hb1⟩; have HL1 := Lib.hid (own_keep HL.out hb1); have HB1 := Lib.hid (HB.out.trans (hb1.mono HB.out.size)); clear hb1))
      go_roundw
      case rel =>
        have h2 : w2.ownsRow W0.heap.size 166 3 v2 (L ++ [((b : Int), (c : Int), pt)]).length (pieces (L ++ [((b : Int), (c : Int), pt)])) := by
          rw [List.length_append, pieces_snoc]; exact hown2
        exact ⟨_, b + c, by omega, by go_num, Lib.hid h2, HS, ((HB1.out.alloc HB1.out.size _).alloc (by have := HB1.out.size; simp; omega) _).grown hg2 (by have := HB1.out.size; simp; omega) (fun j hj => (HL1.out.lt j hj).1)⟩
      case measure => simp [intOf]; omega
    · have E := Lib.hid (seg_done HT.out (by omega))
      go_wp2
      go_ret
      rw [← E.out]
      exact ⟨_, rfl, own_base HL.out HW.out, HB0.out.trans (HB.out.mono HW.out)⟩

def segOut (l : List Ent) (o : List Int) : List Pc := if matOk l o = true then segs l o else []
theorem segOut_len (l : List Ent) (o : List Int) : (segOut l o).length ≤ o.length := by
  unfold segOut
  split
  · exact segs_len l o
  · exact Nat.zero_le _

/-- the count of the piece laid last -/
theorem own_last {w : World} {base : Nat} {v : Value} {L : List Pc} {p : Pc} (h : w.ownsRow base 166 3 v (L.length + 1) (pieces L ++ [Value.int .i64 p.1, .int .i64 p.2.1, .string p.2.2])) :
    ∃ g c, v = .slice (some ⟨g, 0, none⟩) (L.length + 1) c ∧ w.cell? ⟨g, L.length * 3 + 1, none⟩ = some (.int .i64 p.2.1) := by
  rcases Joins.ownsRow_forms h with ⟨h1, h2⟩ | ⟨g, c, h1⟩
  · omega
  · subst h1
    refine ⟨g, c, rfl, ?_⟩
    rw [h.cellAt (L.length * 3 + 1) (by omega), List.getElem?_append_right (by rw [pieces_length]; omega), pieces_length, show L.length * 3 + 1 - L.length * 3 = 1 by omega]
    rfl

set_option maxRecDepth 20000 in
set_option maxHeartbeats 3200000 in
theorem l11Segment_any (v vo : Value) (l : List Ent) (o : List Int) (w : World) (hr : Ents w v l) (hl : l.length ≤ 1048576) (hs : ∀ p ∈ l, p.1.length ≤ 1048576) (ho : Rows w vo o.length 1 (ints o)) (hol : o.length ≤ 1048576) :
    Calls Tryz.prog 157 #[.agg #[v], vo] w (RetRow 166 3 w.heap.size w (segs l o).length (pieces (segs l o))) := by
  have HB0 := Lib.hid (Joins.below_alloc1 w (.cells #[v] 26))
  have HE := Lib.hid (hr.keep HB0.out)
  have HO := Lib.hid (ho.keep HB0.out)
  have HF := Lib.hid hs
  obtain ⟨a, cap, rfl, _, _⟩ := ent_form hr
  obtain ⟨ao, co, rfl, hco, _⟩ := rows_form ho
  clear hr hs ho
  have HC := Lib.hid (show (w.alloc (.cells #[.slice a l.length cap] 26)).cell? ⟨w.heap.size, 0, none⟩ = some (.slice a l.length cap) by simp [go_sem])
  have HM := Lib.hid (fun (b : Nat) W h1 h2 hb => l11Match_any (.slice a l.length cap) (.slice ao o.length co) l o b W h1 hl HF.out h2 hol hb)
  go_enter Tryz.func157, Tryz.ntmps157
  go_upto_region 1 with fail
  obtain ⟨W0, hW0⟩ : ∃ W0, W0 = w.alloc (.cells #[.slice a l.length cap] 26) := ⟨_, rfl⟩
  rw [← hW0] at HB0 HE HC HO ⊢
  have HW := Lib.hid (show w.heap.size ≤ W0.heap.size from HB0.out.size)
  clear hW0
  have HR0 := Lib.hid (World.ownsRow_made (base := W0.heap.size) (e := 166) (size := 3) W0 #[] 0 (Nat.le_refl _) (by unfold maxLen; omega) rfl)
  go_upto_region 3 with fail
  go_loopw [5, 6] (fun out f wr => ∃ (L : List Pc) (b : Nat), b ≤ o.length ∧ f = .int .i64 b ∧ Hid (wr.ownsRow W0.heap.size 166 3 out L.length (pieces L)) ∧ Hid (SegTo l o L b) ∧ Below W0.heap.size W0 wr) (fun _ f _ => o.length - (intOf f).toNat)
  case atStart => exact ⟨[], 0, Nat.zero_le _, rfl, HR0, Lib.hid (seg_start l o), Joins.below_alloc1 _ _⟩
  clear HR0
  case round =>
    obtain ⟨L, b, hb, rfl, HL, HT, hbw⟩ := hrel
    have HB := Lib.hid hbw; clear hbw
    obtain ⟨al, cl, rfl⟩ := row_formD HL.out
    by_cases hlt : b < o.length
    · have hki : (b : Int) < (o.length : Int) := by omega
      obtain ⟨c, hc, hc1, hc2⟩ := matD_told l o b hlt 6
      have HS := Lib.hid (seg_step HT.out hlt (by rw [hc]) hc1 hc2)
      have HLL := Lib.hid HT.out.2
      have q0 := keepcT HB.out HC.out
      have HM1 := Lib.hid (HM.out b wr (HE.out.keep HB.out) (HO.out.keep HB.out) hlt)
      generalize matD l o b 6 = p at HM1 HS hc
      obtain ⟨pf, pc, pt⟩ := p
      cases hc
      clear HT
      have hll : L.length ≤ b := HLL.out
      have hL0 : (0 : Int) ≤ (L.length : Int) := by omega
      have hL1 : (L.length : Int) < (L.length : Int) + 1 := by omega
      go_wp2_with (first
        | (at_builtin; have HL2 := HL1; refine app_piece rfl _ _ rfl W0.heap.size _ L.length (pieces L) rfl (HL2.out.alloc _) ⟨_, 0, none⟩ 1 (b : Int) (c : Int) pt rfl (piece_news _ _ _ _ _) (by omega) (by have := HB1.out.size; simp; omega) ?_; intro v2 w2 hown2 hg2; obtain ⟨g2, k2, rfl, pc1⟩ := own_last (p := ((b : Int), (c : Int), pt)) hown2)
        | (go_at_call 177; (with_reducible refine HM1.out.mono ?_); rintro e w1 ⟨rfl, hb1⟩; have HL1 := Lib.hid (own_keep HL.out hb1); have HB1 := Lib.hid (HB.out.trans (hb1.mono HB.out.size)); clear hb1))
      go_roundw
      case rel =>
        have h2 : w2.ownsRow W0.heap.size 166 3 (.slice (some ⟨g2, 0, none⟩) (L.length + 1) k2) (L ++ [((b : Int), (c : Int), pt)]).length (pieces (L ++ [((b : Int), (c : Int), pt)])) := by
          rw [List.length_append, pieces_snoc]; exact hown2
        exact ⟨_, b + c, by omega, by go_num, Lib.hid h2, HS, (HB1.out.alloc HB1.out.size _).grown hg2 (by have := HB1.out.size; simp; omega) (fun j hj => (HL1.out.lt j hj).1)⟩
      case measure => simp [intOf]; omega
    · have E := Lib.hid (seg_done HT.out (by omega))
      go_wp2
      go_ret
      rw [← E.out]
      exact ⟨_, rfl, own_base HL.out HW.out, HB0.out.trans (HB.out.mono HW.out)⟩

end Go.Proofs.YtdidgaibgkdjoaaGreatDoor

namespace Go.Proofs.YtdidgaibgkdjoaaGreatDoor
open Go.RowKit

def cN (t : T3) : Int := ((1000 * t.1 + t.2.1 : Nat) : Int)
def cM (t : T3) : Int := ((100 * t.1 + t.2.1 : Nat) : Int)
/-- a table of costs, filled from j on -/
def CTo (f : T3 → Int) (l : List Ent) (o : List Int) (xs : List Value) (j : Nat) : Prop := ∀ i, j ≤ i → i ≤ o.length → xs[i]? = some (.int .i64 (f (cst l o i)))
def PcAt (ys : List Value) (i : Nat) (p : Pc) : Prop := ys[i * 3]? = some (.int .i64 p.1) ∧ ys[i * 3 + 1]? = some (.int .i64 p.2.1) ∧ ys[i * 3 + 2]? = some (.string p.2.2)
def PTo (l : List Ent) (o : List Int) (ys : List Value) (j : Nat) : Prop := ∀ i, j ≤ i → i < o.length → PcAt ys i (pcOf l o i (cst l o i).2.2)
theorem CTo.set {f : T3 → Int} {l : List Ent} {o : List Int} {xs : List Value} {i : Nat} {v : Value} (h : CTo f l o xs (i + 1)) : CTo f l o (xs.set i v) (i + 1) := fun j h1 h2 => by
  rw [List.getElem?_set_ne (by omega)]; exact h j h1 h2
theorem CTo.done {f : T3 → Int} {l : List Ent} {o : List Int} {xs : List Value} {i : Nat} (h : CTo f l o xs (i + 1)) (hx : xs[i]? = some (.int .i64 (f (cst l o i)))) : CTo f l o xs i := fun j h1 h2 => by
  by_cases e : j = i
  · rw [e]; exact hx
  · exact h j (by omega) h2
theorem PTo.set {l : List Ent} {o : List Int} {ys : List Value} {i : Nat} {p : Pc} (h : PTo l o ys (i + 1)) : PTo l o (((ys.set (i * 3) (.int .i64 p.1)).set (i * 3 + 1) (.int .i64 p.2.1)).set (i * 3 + 2) (.string p.2.2)) (i + 1) := fun j h1 h2 => by
  obtain ⟨e1, e2, e3⟩ := h j h1 h2
  refine ⟨?_, ?_, ?_⟩
  · rw [List.getElem?_set_ne (by omega), List.getElem?_set_ne (by omega), List.getElem?_set_ne (by omega)]; exact e1
  · rw [List.getElem?_set_ne (by omega), List.getElem?_set_ne (by omega), List.getElem?_set_ne (by omega)]; exact e2
  · rw [List.getElem?_set_ne (by omega), List.getElem?_set_ne (by omega), List.getElem?_set_ne (by omega)]; exact e3
theorem PcAt.set {ys : List Value} {i : Nat} {p : Pc} (h : i * 3 + 3 ≤ ys.length) : PcAt (((ys.set (i * 3) (.int .i64 p.1)).set (i * 3 + 1) (.int .i64 p.2.1)).set (i * 3 + 2) (.string p.2.2)) i p := by
  refine ⟨?_, ?_, ?_⟩
  · rw [List.getElem?_set_ne (by omega), List.getElem?_set_ne (by omega), List.getElem?_set_self (by omega)]
  · rw [List.getElem?_set_ne (by omega), List.getElem?_set_self (by rw [List.length_set]; omega)]
  · rw [List.getElem?_set_self (by rw [List.length_set, List.length_set]; omega)]
theorem PTo.done {l : List Ent} {o : List Int} {ys : List Value} {i : Nat} (h : PTo l o ys (i + 1)) (hx : PcAt ys i (pcOf l o i (cst l o i).2.2)) : PTo l o ys i := fun j h1 h2 => by
  by_cases e : j = i
  · rw [e]; exact hx
  · exact h j (by omega) h2
theorem CTo.start {f : T3 → Int} (h0 : f (0, 0, 0) = 0) {l : List Ent} {o : List Int} {xs : List Value} (hx : xs[o.length]? = some (.int .i64 0)) : CTo f l o xs o.length := fun i h1 h2 => by
  obtain rfl : i = o.length := by omega
  rw [cst_end l o _ (Nat.le_refl _), h0]
  exact hx
theorem PTo.start (l : List Ent) (o : List Int) (ys : List Value) : PTo l o ys o.length := fun i h1 h2 => by omega
theorem own_make {w : World} {base : Nat} {E : TypeId} {size n : Nat} {z : Array Value} (hb : base ≤ w.heap.size) (hn : n ≤ maxLen) : (w.alloc (.cells (madeCells z (n * size)) E)).ownsRow base E size (.slice (some ⟨w.heap.size, 0, none⟩) n n) n (madeCells z (n * size)).toList :=
  ⟨by rw [Array.length_toList, size_madeCells], .inr ⟨w.heap.size, n, _, rfl, hb, heap_alloc_new w _, Nat.le_refl _, hn, by rw [size_madeCells], by rw [List.take_of_length_le (by rw [Array.length_toList, size_madeCells]; exact Nat.le_refl _)]⟩⟩
theorem run_ints (n : Nat) (hn : n ≤ 1048577) (W : World) : (Instr.makeSlice 36 (.int .i64 (n : Int)) (.int .i64 (n : Int))).run Tryz.prog W = .ok (.slice (some ⟨W.heap.size, 0, none⟩) n n) (W.alloc (.cells (madeCells #[.int .i64 0] (n * 1)) 3)) := by
  obtain ⟨i0, hi, hz0, hz1, hz2⟩ := info_parts Tryz.infoInt
  have h := run_make (P := Tryz.prog) W 36 3 i0 (.int .i64 0) Tryz.underlying36 hi hz0 .i64 .i64 (n : Int) (n : Int) (by omega) (Int.le_refl _) (by rw [hz2]; omega) (by omega)
  rw [hz1, Int.toNat_natCast] at h
  exact h
theorem run_pcs (n : Nat) (hn : n ≤ 1048577) (W : World) : (Instr.makeSlice 118 (.int .i64 (n : Int)) (.int .i64 (n : Int))).run Tryz.prog W = .ok (.slice (some ⟨W.heap.size, 0, none⟩) n n) (W.alloc (.cells (madeCells #[.int .i64 0, .int .i64 0, .string ⟨#[]⟩] (n * 3)) 166)) := by
  obtain ⟨i0, hi, hz0, hz1, hz2⟩ := info_parts Tryz.infoPiece
  have h := run_make (P := Tryz.prog) W 118 166 i0 (.agg #[.int .i64 0, .int .i64 0, .string ⟨#[]⟩]) Tryz.underlying118 hi hz0 .i64 .i64 (n : Int) (n : Int) (by omega) (Int.le_refl _) (by rw [hz2]; omega) (by omega)
  rw [hz1, Int.toNat_natCast] at h
  exact h
theorem made_zero (n k : Nat) (h : k < n * 1) : (madeCells #[.int .i64 0] (n * 1)).toList[k]? = some (.int .i64 0) := by
  unfold madeCells
  rw [Array.getElem?_toList, Array.getElem?_map, Array.getElem?_range, if_pos h]
  simp [Nat.mod_one]
theorem made_zero1 (n k : Nat) (h : k < n) : (madeCells #[.int .i64 0] n).toList[k]? = some (.int .i64 0) := by
  have := made_zero n k (by omega)
  rwa [Nat.mul_one] at this
/-- two rows made one after the other -/
theorem own_two {W0 : World} {E1 E2 : TypeId} {s1 s2 n1 n2 : Nat} {z1 z2 : Array Value} (h1 : n1 ≤ maxLen) (h2 : n2 ≤ maxLen) (c1 c2 : Array Value) (e1 : c1 = madeCells z1 (n1 * s1)) (e2 : c2 = madeCells z2 (n2 * s2)) :
    ((W0.alloc (.cells c1 E1)).alloc (.cells c2 E2)).ownsRow W0.heap.size E1 s1 (.slice (some ⟨W0.heap.size, 0, none⟩) n1 n1) n1 c1.toList ∧
    ((W0.alloc (.cells c1 E1)).alloc (.cells c2 E2)).ownsRow W0.heap.size E2 s2 (.slice (some ⟨W0.heap.size + 1, 0, none⟩) n2 n2) n2 c2.toList ∧
    Below W0.heap.size W0 ((W0.alloc (.cells c1 E1)).alloc (.cells c2 E2)) := by
  subst e1
  subst e2
  refine ⟨(own_make (Nat.le_refl _) h1).alloc _, ?_, Joins.below_alloc2 _ _ _⟩
  have h := own_make (w := W0.alloc (.cells (madeCells z1 (n1 * s1)) E1)) (base := W0.heap.size) (E := E2) (size := s2) (n := n2) (z := z2) (by rw [World.size_alloc]; omega) h2
  rw [World.size_alloc] at h
  exact h
theorem cN_bd {l : List Ent} {o : List Int} (ho : o.length ≤ 60) (i : Nat) : 0 ≤ cN (cst l o i) ∧ cN (cst l o i) ≤ 60060 := by
  have := cst_le l o _ i rfl
  unfold cN
  omega
theorem cN_scbd {l : List Ent} {o : List Int} (ho : o.length ≤ 60) {i n : Nat} (h : i < o.length) (hn : n ≤ 6) (hi : i + n ≤ o.length) : 0 ≤ cN (sc l o i n) ∧ cN (sc l o i n) ≤ 60060 := by
  have := sc_le l o i h n hn hi
  unfold cN
  omega
theorem cM_bd {l : List Ent} {o : List Int} (ho : o.length ≤ 60) (i : Nat) : 0 ≤ cM (cst l o i) ∧ cM (cst l o i) ≤ 6060 := by
  have := cst_le l o _ i rfl
  unfold cM
  omega
theorem cM_scbd {l : List Ent} {o : List Int} (ho : o.length ≤ 60) {i n : Nat} (h : i < o.length) (hn : n ≤ 6) (hi : i + n ≤ o.length) : 0 ≤ cM (sc l o i n) ∧ cM (sc l o i n) ≤ 6060 := by
  have := sc_le l o i h n hn hi
  unfold cM
  omega
theorem cN_zero {l : List Ent} {o : List Int} {i : Nat} (h : i < o.length) : cN (sc l o i 0) = cN (cst l o (i + 1)) + 1001 := by
  rw [sc_zero l o i h]
  unfold cN
  dsimp only
  omega
theorem cM_zero {l : List Ent} {o : List Int} {i : Nat} (h : i < o.length) : cM (sc l o i 0) = 101 + cM (cst l o (i + 1)) := by
  rw [sc_zero l o i h]
  unfold cM
  dsimp only
  omega
theorem sc_zero_n {l : List Ent} {o : List Int} {i : Nat} (h : i < o.length) : (sc l o i 0).2.2 = 0 := by rw [sc_zero l o i h]
theorem cN_yes {l : List Ent} {o : List Int} {i m : Nat} (h : i + (m + 1) ≤ o.length) (h1 : Pl.hasD l ((o.drop i).take (m + 1)) = true) (h2 : cN (cst l o (i + (m + 1))) + 1 ≤ cN (sc l o i m)) : cN (sc l o i (m + 1)) = cN (cst l o (i + (m + 1))) + 1 ∧ cM (sc l o i (m + 1)) = 1 + cM (cst l o (i + (m + 1))) ∧ (sc l o i (m + 1)).2.2 = m + 1 := by
  have h3 : 1000 * (cst l o (i + (m + 1))).1 + (cst l o (i + (m + 1))).2.1 + 1 ≤ 1000 * (sc l o i m).1 + (sc l o i m).2.1 := by unfold cN at h2; omega
  rw [sc_yes l o i m h h1 h3]
  unfold cN cM
  dsimp only
  exact ⟨by omega, by omega, rfl⟩
theorem cN_no {l : List Ent} {o : List Int} {i m : Nat} (h : i + (m + 1) ≤ o.length) (h1 : ¬ (Pl.hasD l ((o.drop i).take (m + 1)) = true ∧ cN (cst l o (i + (m + 1))) + 1 ≤ cN (sc l o i m))) : sc l o i (m + 1) = sc l o i m := by
  refine sc_no l o i m h (fun h2 => h1 ⟨h2.1, ?_⟩)
  have := h2.2
  unfold cN
  omega
/-- the two ways of weighing agree -/
theorem weigh {l : List Ent} {o : List Int} (ho : o.length ≤ 60) {i m : Nat} (h : i < o.length) (hm : m ≤ 6) (hi : i + (m + 1) ≤ o.length) : (1 + cM (cst l o (i + (m + 1))) ≤ cM (sc l o i m)) ↔ (cN (cst l o (i + (m + 1))) + 1 ≤ cN (sc l o i m)) := by
  have h1 := cst_le l o _ (i + (m + 1)) rfl
  have h2 := sc_le l o i h m hm (by omega)
  unfold cM cN
  omega
theorem pcOf_told (l : List Ent) (o : List Int) (i n : Nat) : pcOf l o i n = ((i : Int), ((pcN n : Nat) : Int), (pcOf l o i n).2.2) := by
  unfold pcOf pcN
  split <;> rfl
theorem pcOf_zero (l : List Ent) (o : List Int) (i : Nat) : pcOf l o i 0 = ((i : Int), 1, ⟨#[]⟩) := if_pos rfl
theorem pcOf_some (l : List Ent) (o : List Int) (i n : Nat) (h : 1 ≤ n) : pcOf l o i n = ((i : Int), (n : Int), Pl.textD l ((o.drop i).take n)) := if_neg (by omega)
def fewOut (l : List Ent) (o : List Int) : List Pc := if matOk l o = true then fews l o else []
theorem fewOut_len (l : List Ent) (o : List Int) : (fewOut l o).length ≤ o.length := by
  unfold fewOut
  split
  · exact fews_len l o
  · exact Nat.zero_le _

end Go.Proofs.YtdidgaibgkdjoaaGreatDoor

namespace Go.Proofs.YtdidgaibgkdjoaaGreatDoor
open Go.RowKit

end Go.Proofs.YtdidgaibgkdjoaaGreatDoor

namespace Go.Proofs.YtdidgaibgkdjoaaGreatDoor
open Go.RowKit

/-- a table of the first pieces' lengths, filled from j on -/
def TTo (l : List Ent) (o : List Int) (xs : List Value) (j : Nat) : Prop := ∀ i, j ≤ i → i < o.length → xs[i]? = some (.int .i64 ((cst l o i).2.2 : Nat))
theorem TTo.set {l : List Ent} {o : List Int} {xs : List Value} {i : Nat} {v : Value} (h : TTo l o xs (i + 1)) : TTo l o (xs.set i v) (i + 1) := fun j h1 h2 => by
  rw [List.getElem?_set_ne (by omega)]; exact h j h1 h2
theorem TTo.done {l : List Ent} {o : List Int} {xs : List Value} {i : Nat} (h : TTo l o xs (i + 1)) (hx : xs[i]? = some (.int .i64 ((cst l o i).2.2 : Nat))) : TTo l o xs i := fun j h1 h2 => by
  by_cases e : j = i
  · rw [e]; exact hx
  · exact h j (by omega) h2
theorem TTo.start (l : List Ent) (o : List Int) (ys : List Value) : TTo l o ys o.length := fun i h1 h2 => by omega

set_option maxHeartbeats 400000 in
theorem l1Most_any (a b : Int) (w : World) :
    Calls Tryz.prog 100 #[.int .i64 a, .int .i64 b] w fun e w' => e = .returned (.int .i64 (if b < a then a else b)) ∧ w = w' := by
  by_cases h : b < a
  · have E := Lib.hid (show (if b < a then a else b) = a from if_pos h)
    go_enter Tryz.func100, Tryz.ntmps100
    go_wp2
    go_ret
    exact ⟨by first | rfl | exact ret_int E.out.symm, rfl⟩
  · have E := Lib.hid (show (if b < a then a else b) = b from if_neg h)
    go_enter Tryz.func100, Tryz.ntmps100
    go_wp2
    go_ret
    exact ⟨by first | rfl | exact ret_int E.out.symm, rfl⟩
theorem keepb {B : Nat} {w w' : World} (hb : Below B w w') {b o : Nat} {u : Value} (h : w.cell? ⟨b, o, none⟩ = some u) (hB : b < B) : w'.cell? ⟨b, o, none⟩ = some u := (hb.cell (p := ⟨b, o, none⟩) hB).trans h
theorem grown_setF (w : World) (g i : Nat) (u : Value) : w.grownBy (w.setCell ⟨g, i, none⟩ u) (some g) :=
  ⟨rfl, rfl, rfl, by simp [World.setCell], fun j _ hne => Below.heap_setCell _ _ _ _ (fun e => hne (by rw [e]))⟩
theorem cell_set_ne {w : World} {B i b o : Nat} {u x : Value} (h : w.cell? ⟨b, o, none⟩ = some u) (hne : b ≠ B) : (w.setCell ⟨B, i, none⟩ x).cell? ⟨b, o, none⟩ = some u := (grown_setF w B i x).cell h (fun e => hne (Option.some.inj e))
theorem own_not {w : World} {base : Nat} {E : TypeId} {size n B : Nat} {v : Value} {xs : List Value} (h : w.ownsRow base E size v n xs) (hB : w.heap.size ≤ B) : v.ownBlock = none ∨ v.ownBlock ≠ some B := by
  rcases own_block h with h | ⟨g, h, _, h3⟩
  · exact .inl h
  · exact .inr (fun e => by rw [h] at e; have := Option.some.inj e; omega)
theorem most_pcN (n : Nat) : (if (1 : Int) < (n : Int) then (n : Int) else 1) = (pcN n : Nat) := by
  unfold pcN
  by_cases h : n = 0
  · subst h; rfl
  · rw [if_neg h]
    split <;> omega

end Go.Proofs.YtdidgaibgkdjoaaGreatDoor

namespace Go.Proofs.YtdidgaibgkdjoaaGreatDoor
open Go.RowKit

theorem own_not_row {w w' : World} {base hi : Nat} {E : TypeId} {size n : Nat} {v : Value} {xs : List Value} (h : w.ownsRow base E size v n xs) (_ : w' = w') (hlt : ∀ g, v.ownBlock = some g → g < hi) {r : Option Nat} (hr : ∀ g, r = some g → hi ≤ g) : v.ownBlock = none ∨ v.ownBlock ≠ r := by
  rcases own_block h with h | ⟨g, h, _, _⟩
  · exact .inl h
  · refine .inr (fun e => ?_)
    have h1 := hlt g h
    have h2 := hr g (e.symm.trans h)
    omega
theorem Inner.grown {w w' : World} {lo hi sz p : Nat} {xs : List Value} {L : List (List Int)} {U : Nat → Value} {r : Option Nat} (h : Inner w lo hi xs sz p L U) (hg : w.grownBy w' r) (hd : ∀ j, j < L.length → (U j).ownBlock = none ∨ (U j).ownBlock ≠ r) : Inner w' lo hi xs sz p L U :=
  ⟨fun j hj => ⟨(h.1 j hj).1, (h.1 j hj).2.1.kept hg (hd j hj), (h.1 j hj).2.2⟩, h.2⟩
/-- the inner rows lie in other blocks than a row of another element type -/
theorem Inner.apart {w : World} {lo hi sz p b s n : Nat} {E : TypeId} {xs ys : List Value} {L : List (List Int)} {U : Nat → Value} {v : Value} (h : Inner w lo hi xs sz p L U) (hv : w.ownsRow b E s v n ys) (hE : 3 ≠ E) : ∀ j, j < L.length → (U j).ownBlock = none ∨ (U j).ownBlock ≠ v.ownBlock := by
  intro j hj
  rcases own_block (h.1 j hj).2.1 with e | ⟨g, e, _, _⟩
  · exact .inl e
  · exact .inr (fun e2 => apart_type (h.1 j hj).2.1 hv hE g e (e2.symm.trans e))
theorem Inner.wider {w : World} {lo hi hi' sz p : Nat} {xs : List Value} {L : List (List Int)} {U : Nat → Value} (h : Inner w lo hi xs sz p L U) (hh : hi ≤ hi') : Inner w lo hi' xs sz p L U :=
  ⟨fun j hj => ⟨(h.1 j hj).1, (h.1 j hj).2.1, fun g hg => Nat.lt_of_lt_of_le ((h.1 j hj).2.2 g hg) hh⟩, h.2⟩
theorem Inner.snoc {w : World} {lo hi hi' sz p : Nat} {xs ys : List Value} {L : List (List Int)} {U : Nat → Value} {u : Value} {l : List Int} (h : Inner w lo hi xs sz p L U) (hx : xs.length = L.length * sz) (hys : ys[p]? = some u)
    (hu : w.ownsRow hi 3 1 u l.length (ints l)) (hlo : lo ≤ hi) (huh : ∀ g, u.ownBlock = some g → g < hi') (hh : hi ≤ hi') :
    Inner w lo hi' (xs ++ ys) sz p (L ++ [l]) (fun j => if j < L.length then U j else u) := by
  refine ⟨fun j hj => ?_, fun i j hij hj g hg => ?_⟩
  · rw [List.length_append, List.length_singleton] at hj
    by_cases hl : j < L.length
    · obtain ⟨e1, e2, e3⟩ := h.1 j hl
      have hp := (List.getElem?_eq_some_iff.1 e1).1
      simp only [if_pos hl]
      refine ⟨by rw [List.getElem?_append_left hp]; exact e1, ?_, fun g hg => Nat.lt_of_lt_of_le (e3 g hg) hh⟩
      rw [List.getElem_append_left hl]
      exact e2
    · obtain rfl : j = L.length := by omega
      simp only [if_neg (Nat.lt_irrefl _)]
      refine ⟨?_, ?_, huh⟩
      · rw [List.getElem?_append_right (by rw [hx]; omega), hx, show L.length * sz + p - L.length * sz = p by omega]
        exact hys
      · have e : (L ++ [l])[L.length]'(by rw [List.length_append, List.length_singleton]; omega) = l := by
          rw [List.getElem_append_right (Nat.le_refl _)]; simp
        rw [e]
        exact own_base hu hlo
  · rw [List.length_append, List.length_singleton] at hj
    have hi1 : i < L.length := by omega
    simp only [if_pos hi1] at hg
    by_cases hl : j < L.length
    · simp only [if_pos hl]
      exact h.2 i j hij hl g hg
    · simp only [if_neg hl]
      intro e
      have h1 := (h.1 i hi1).2.2 g hg
      have h2 := (hu.lt g e).1
      omega
theorem Inner.lower {w : World} {lo lo' hi sz p : Nat} {xs : List Value} {L : List (List Int)} {U : Nat → Value} (h : Inner w lo hi xs sz p L U) (hh : lo' ≤ lo) : Inner w lo' hi xs sz p L U :=
  ⟨fun j hj => ⟨(h.1 j hj).1, own_base (h.1 j hj).2.1 hh, (h.1 j hj).2.2⟩, h.2⟩
theorem Inner.nil (w : World) (lo hi sz p : Nat) : Inner w lo hi [] sz p [] (fun _ => .slice none 0 0) := ⟨fun j hj => by simp at hj, fun i j _ hj => by simp at hj⟩

theorem Tryz.infoInts : (Tryz.prog.info? 36).map (fun i => (i.zero, i.size, i.bytes)) = some (some (.slice none 0 0), 1, 24) := by kernel_rfl
theorem ints_news (w : World) (u : Value) (E : TypeId) (b : Nat) (hb : b = w.heap.size) : ∀ j x, [u][j]? = some x → (w.alloc (.cells #[u] E)).cell? ((⟨b, 0, none⟩ : Addr).add j) = some x := by
  intro j x hj
  subst hb
  rw [Addr.add_lit, Nat.zero_add, World.cell?_alloc_mark]
  simpa using hj
theorem app_ints {ops : Array Oper} {rest : List Oper} {o : Oper} {a : Act} {w : World} {Q : Exit → Act → World → Prop} (hgd : o.guard = none) (s x : Operand)
    (ho : o.op = .call { callee := .builtin .append, args := #[s, x], argTypes := #[29, 29] })
    (base : Nat) (v : Value) (n : Nat) (xs : List Value) (hs : a.eval s = v) (hown : w.ownsRow base 36 1 v n xs)
    (ad : Addr) (c : Nat) (ua : Option Addr) (ul uc : Nat) (hx : a.eval x = .slice (some ad) 1 c) (hnews : ∀ j u, [Value.slice ua ul uc][j]? = some u → w.cell? (ad.add j) = some u)
    (hnm : n + 1 ≤ 4194304) (hbase : base ≤ w.heap.size)
    (h : ∀ v' w', w'.ownsRow base 36 1 v' (n + 1) (xs ++ [Value.slice ua ul uc]) → w.grownBy w' v.ownBlock → wpList Tryz.prog ops Q rest (a.put o.dst v') w') : wpList Tryz.prog ops Q (o :: rest) a w := by
  obtain ⟨i0, hi, hz0, hz1, hz2⟩ := info_parts Tryz.infoInts
  exact wpList_append_own w hgd s x 29 ho base 36 i0 (.slice none 0 0) 1 24 Tryz.underlying29 hi hz0 hz1 hz2 rfl (by decide) v n xs hs hown ad 1 c [Value.slice ua ul uc] hx rfl hnews
    (by intro u hu; simp only [List.mem_cons, List.not_mem_nil, or_false] at hu; subst hu; rfl)
    (by unfold maxLen; omega) (by omega) hbase (fun v' w' h1 h2 _ => h v' w' h1 h2)

theorem OwnNest.nil (E : TypeId) (sz p : Nat) (w : World) (lo : Nat) : OwnNest E sz p w lo w.heap.size (.slice none 0 0) [] [] := ⟨⟨World.ownsRow_nil _ _ _ _, fun g hg => by simp [Value.ownBlock] at hg, Nat.le_refl _⟩, _, Inner.nil w lo _ sz p⟩
theorem OwnNest.of {E : TypeId} {sz p : Nat} {w : World} {lo lo' : Nat} {v : Value} {L : List (List Int)} {xs : List Value} {U : Nat → Value} (h : w.ownsRow lo E sz v L.length xs) (hi : Inner w lo w.heap.size xs sz p L U) (hl : lo' ≤ lo) : OwnNest E sz p w lo' w.heap.size v L xs :=
  ⟨⟨own_base h hl, fun g hg => (h.lt g hg).2, Nat.le_refl _⟩, U, hi.lower hl⟩
/-- slices of integers laid anew -/
def RetII (w : World) (L : List (List Int)) (y : Bool) (e : Ending) (w' : World) : Prop := ∃ v xs, e = .returned (.tuple #[v, .bool y]) ∧ OwnNest 36 1 0 w' w.heap.size w'.heap.size v L xs ∧ Below w.heap.size w w'

end Go.Proofs.YtdidgaibgkdjoaaGreatDoor
