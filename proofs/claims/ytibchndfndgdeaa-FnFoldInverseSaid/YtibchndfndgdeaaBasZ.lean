/-
  CONTRACTS: slices.Reverse on a row of bytes; reversed, doubled of the program.
  CONTRACTS: number strokes of the program and the reference.
  CONTRACTS: valid outlines, valid folds, and an outline with another last stroke.
  CONTRACTS: a list of integers in new memory, and with another last element.
  CONTRACTS: IsValidFolds of the program and of the reference.
  CONTRACTS: Unfold of the program and of the reference.
  CONTRACTS: Unfold of the reference.
  CONTRACTS: FoldInto of the reference.
  CONTRACTS: FoldInto of the program.
-/
import Derived.Test.YtibchndfndgdeaaSl
import Derived.Test.YtibchndfndgdeaaStrA
import Derived.Test.YtibchndfndgdeaaPlainBits
import Derived.Deep.QuietTactic
import Derived.BigQuiet
import Derived.BigRegion
import Derived.IntWalk
import Derived.Test.YtibchndfndgdeaaEnds
import Derived.Test.YtibchndfndgdeaaIntS
import Derived.Test.YtibchndfndgdeaaPlainFold
import Derived.Laws.AppendOwn
import Derived.OwnWalk
import Derived.Lib.SmallJoins
import Derived.Test.YtibchndfndgdeaaPlainFolds
import Derived.Test.YtibchndfndgdeaaFoldS
import Derived.Deep.RegionLaw
import Derived.Deep.DeepCutAuto
import Derived.Deep.RegionHeld3
namespace Go.Proofs.Ytibchndfndgdeaa
open Go.RowKit

/-- k bytes at each end have been exchanged -/
def RevAt (b n : Nat) (f : Nat → UInt8) (k : Nat) (w wr : World) : Prop :=
  (∀ j, j < n → wr.cell? ⟨b, j, none⟩ = some (.int .u8 (((if j < k ∨ n ≤ j + k then f (n - 1 - j) else f j).toNat : Nat) : Int))) ∧ (∀ j, j < n → wr.frozen? ⟨b, j, none⟩ = false) ∧ w.grownBy wr (some b)

theorem RevAt.step {b n : Nat} {f : Nat → UInt8} {k : Nat} {w wr : World} (h : RevAt b n f k w wr) (hk : k + k + 1 < n) :
    RevAt b n f (k + 1) w ((wr.setCell ⟨b, k, none⟩ (.int .u8 ((f (n - 1 - k)).toNat : Int))).setCell ⟨b, n - 1 - k, none⟩ (.int .u8 ((f k).toNat : Int))) := by
  obtain ⟨h1, h2, h3⟩ := h
  refine ⟨fun j hj => ?_, fun j hj => ?_, ?_⟩
  · have c1 := h1 k (by omega)
    have c2 := h1 (n - 1 - k) (by omega)
    by_cases e2 : j = n - 1 - k
    · subst e2
      have c2' : (wr.setCell ⟨b, k, none⟩ (.int .u8 ((f (n - 1 - k)).toNat : Int))).cell? ⟨b, n - 1 - k, none⟩ = some (.int .u8 (((if n - 1 - k < k ∨ n ≤ n - 1 - k + k then f (n - 1 - (n - 1 - k)) else f (n - 1 - k)).toNat : Nat) : Int)) := by
        rw [World.cell?_setCell_other _ _ _ _ (by intro h; injection h with _ h _; omega)]; exact c2
      rw [World.cell?_setCell_same _ _ _ c2', if_pos (by omega), show n - 1 - (n - 1 - k) = k by omega]
    · rw [World.cell?_setCell_other _ _ _ _ (by intro h; injection h with _ h _; omega)]
      by_cases e1 : j = k
      · subst e1
        rw [World.cell?_setCell_same _ _ _ c1, if_pos (by omega)]
      · rw [World.cell?_setCell_other _ _ _ _ (by intro h; injection h with _ h _; omega), h1 j hj]
        by_cases hj2 : j < k ∨ n ≤ j + k
        · rw [if_pos hj2, if_pos (by omega)]
        · rw [if_neg hj2, if_neg (by omega)]
  · have := h2 j hj
    simpa [go_sem] using this
  · exact ⟨h3.os, h3.tape, h3.output, by simpa [World.setCell] using h3.size, fun i hi hne => by
      have hb : i ≠ b := fun e => hne (by rw [e])
      rw [Below.heap_setCell _ _ _ _ hb, Below.heap_setCell _ _ _ _ hb]; exact h3.block i hi hne⟩

/-- read back when all is exchanged -/
theorem rev_back {b k : Nat} {t : ByteArray} {w w' : World} (hk : t.size ≤ k + k + 1) (h : RevAt b t.size (fun j => t.data.getD j 0) k w w') (cap : Nat) :
    (convert 22 9 (.slice (some ⟨b, 0, none⟩) t.size cap)).run Try.prog w' = .ok (.string ⟨t.data.reverse⟩) w' := by
  have hl : t.data.toList.reverse.length = t.size := by rw [List.length_reverse, Array.length_toList]; rfl
  have := run_convert_bytes_back (P := Try.prog) w' 22 9 5 ⟨b, 0, none⟩ cap t.data.toList.reverse Try.underlying22 Try.underlying5 Try.underlying9 (fun j hj => by
    have hj' : j < t.size := by omega
    have e := h.1 j hj'
    have hx : t.data.toList.reverse[j] = t.data.getD (t.size - 1 - j) 0 := by
      rw [List.getElem_reverse, Array.getD_eq_getD_getElem?, Array.getElem?_eq_getElem (by show _ < t.size; omega)]
      simp only [Array.getElem_toList, Array.length_toList]
      rfl
    rw [hx]
    have ha : (Addr.add ⟨b, 0, none⟩ j) = ⟨b, j, none⟩ := by
      unfold Addr.add; split
      · rename_i h0; subst h0; rfl
      · simp
    rw [ha, e]
    by_cases hc : j < k ∨ t.size ≤ j + k
    · rw [if_pos hc]
    · rw [if_neg hc, show t.size - 1 - j = j by omega])
  rw [hl] at this
  rw [this, show t.data.toList.reverse.toArray = t.data.reverse by rw [← Array.toList_reverse, Array.toArray_toList]]

theorem heap_new (w : World) (o : Obj) : (w.alloc o).heap[w.heap.size]? = some o := by
  show (w.heap.push _)[w.heap.size]? = _; simp
theorem cell_new (w : World) (c : Array Value) (t : TypeId) (d : Nat × Nat) (i : Nat) : (w.alloc (.cells c t d)).cell? ⟨w.heap.size, i, none⟩ = c[i]? := by
  unfold World.cell?; rw [heap_new]; rfl
theorem frozen_new (w : World) (c : Array Value) (t : TypeId) (a b i : Nat) (h : i < a) : (w.alloc (.cells c t (a, b))).frozen? ⟨w.heap.size, i, none⟩ = false := by
  unfold World.frozen?; rw [heap_new]; simp; omega

/-- the bytes of t lie in the row -/
theorem bytesRow_rev (t : ByteArray) (cap : Nat) (w : World) :
    RevAt w.heap.size t.size (fun j => t.data.getD j 0) 0 (w.alloc (.cells (bytesRow t cap) 5 ((bytesRow t cap).size, (bytesRow t cap).size + 1))).drew (w.alloc (.cells (bytesRow t cap) 5 ((bytesRow t cap).size, (bytesRow t cap).size + 1))).drew := by
  refine ⟨fun j hj => ?_, fun j hj => ?_, World.grownBy.refl _ _⟩
  · have hj' : j < t.data.size := hj
    rw [World.cell?_drew, if_neg (by omega), cell_new]
    show (bytesRow t cap)[j]? = some (.int .u8 ((t.data.getD j 0).toNat : Int))
    rw [bytesRow_at t cap j hj', Array.getD_eq_getD_getElem?, Array.getElem?_eq_getElem hj']; rfl
  · have hj' : j < (bytesRow t cap).size := by
      have : j < t.data.size := hj
      simp [bytesRow]; omega
    show (w.alloc _).frozen? _ = _
    exact frozen_new _ _ _ _ _ _ hj'

end Go.Proofs.Ytibchndfndgdeaa

namespace Go.Proofs.Ytibchndfndgdeaa
open Go.RowKit

set_option maxHeartbeats 400000 in
theorem IsValidStroke_any (s : Int) (w : World) :
    Calls Try.prog 24 #[.int .i64 s] w fun e w' => e = .returned (.bool (Pl.strokeB s)) ∧ w = w' := by
  go_enter Try.func24, Try.ntmps24
  go_wp2_with ((go_at_call 22; refine (in_any _ _ _ _).mono ?_; rintro e w' ⟨rfl, rfl⟩))
  go_ret
  exact ⟨rfl, rfl⟩

set_option maxHeartbeats 400000 in
theorem l2Good_any (s : Int) (w : World) :
    Calls Try.prog 28 #[.int .i64 s] w fun e w' => e = .returned (.bool (Pl.strokeB s)) ∧ w = w' := by
  go_enter Try.func28, Try.ntmps28
  go_wp2_with ((go_at_call 27; refine (l1In_any _ _ _ _).mono ?_; rintro e w' ⟨rfl, rfl⟩))
  go_ret
  exact ⟨rfl, rfl⟩

theorem bT {a b : Int} (h : (a == b) = true) : a = b := by simpa using h
theorem bF {a b : Int} (h : (a == b) = false) : ¬ a = b := by simpa using h

theorem nT {a b : Int} (h : (a == b) = true) : (a != b) = false := by simpa using h
theorem nF {a b : Int} (h : (a == b) = false) : (a != b) = true := by simpa using h

theorem written_empty (s : Int) : (Pl.written s).toList.isEmpty = !Pl.isNum s := by
  rw [← Pl.written_isNum s]; cases (Pl.written s).toList <;> rfl

end Go.Proofs.Ytibchndfndgdeaa

namespace Go.Proofs.Ytibchndfndgdeaa
open Go.RowKit

set_option maxHeartbeats 400000 in
theorem IsValidOutline_any (v : Value) (l : List Int) (w : World) (hr : Rows w v l.length 1 (ints l)) (hl : l.length ≤ 1048576) :
    Calls Try.prog 12 #[v] w fun e w' => e = .returned (.bool (Pl.outlineB l)) ∧ Below w.heap.size w w' := by
  have H := Lib.hid (allI_any Pl.strokeB 24 (enters_of Try.func24 (by kernel_rfl) rfl) v l w hr hl (fun W x => IsValidStroke_any x W))
  have E : Hid (Pl.outlineB l = (Pl.inB l.length 1 6 && l.all Pl.strokeB)) := Lib.hid rfl
  obtain ⟨a, cap, rfl, -⟩ := hr
  cases h1 : Pl.inB l.length 1 6
  · rw [h1, Bool.false_and] at E
    go_enter Try.func12, Try.ntmps12
    go_wp2_with ((go_at_call 22; refine (in_any _ _ _ _).mono ?_; rintro e w' ⟨rfl, rfl⟩))
    all_goals go_ret
    all_goals exact ⟨ret_bool E.out.symm, Below.refl _ _⟩
  · rw [h1, Bool.true_and] at E
    go_enter Try.func12, Try.ntmps12
    go_wp2_with (first | (go_at_call 22; refine (in_any _ _ _ _).mono ?_; rintro e w' ⟨rfl, rfl⟩) | (go_at_call 23; refine H.out.mono ?_; rintro e w1 ⟨rfl, hb1⟩))
    all_goals go_ret
    all_goals exact ⟨ret_bool E.out.symm, hb1⟩

theorem all_take_no (p : Int → Bool) (l : List Int) (k : Nat) (h : k < l.length) (y : Int) (hy : l[k] = y) (hp : p y = false) : l.all p = false := by
  subst hy
  exact Bool.eq_false_iff.2 fun ha => by
    have := (List.all_eq_true.1 ha) _ (List.getElem_mem h)
    rw [hp] at this; cases this
theorem all_take_next (p : Int → Bool) (l : List Int) (k : Nat) (h : k < l.length) (y : Int) (hy : l[k] = y) (hp : p y = true) (ha : (l.take k).all p = true) : (l.take (k + 1)).all p = true := by
  subst hy
  rw [List.take_add_one, List.getElem?_eq_getElem h, List.all_append, ha]
  simp [hp]
theorem all_take_all (p : Int → Bool) (l : List Int) (k : Nat) (h : k = l.length) (ha : (l.take k).all p = true) : l.all p = true := by
  subst h
  rwa [List.take_of_length_le (Nat.le_refl _)] at ha

set_option maxHeartbeats 800000 in
theorem l4Good_any (v : Value) (l : List Int) (w : World) (hr : Rows w v l.length 1 (ints l)) (hl : l.length ≤ 1048576) :
    Calls Try.prog 15 #[v] w fun e w' => e = .returned (.bool (Pl.outlineB l)) ∧ w = w' := by
  have E : Hid (Pl.outlineB l = (Pl.inB l.length 1 6 && l.all Pl.strokeB)) := Lib.hid rfl
  obtain ⟨a, cap, rfl, _, _, _, _, hcells⟩ := hr
  cases h1 : Pl.inB l.length 1 6
  · rw [h1, Bool.false_and] at E
    clear hcells
    go_enter Try.func15, Try.ntmps15
    go_wp2_with ((go_at_call 27; refine (l1In_any _ _ _ _).mono ?_; rintro e w' ⟨rfl, rfl⟩))
    all_goals go_ret
    all_goals exact ⟨ret_bool E.out.symm, rfl⟩
  · rw [h1, Bool.true_and] at E
    go_enter Try.func15, Try.ntmps15
    go_wp2_with ((go_at_call 27; refine (l1In_any _ _ _ _).mono ?_; rintro e w' ⟨rfl, rfl⟩))
    go_loop [3] (fun i => ∃ k : Nat, k ≤ l.length ∧ i = .int .i64 k ∧ Hid ((l.take k).all Pl.strokeB = true)) (fun i => l.length - (intOf i).toNat)
    case atStart => exact ⟨0, Nat.zero_le _, rfl, Lib.hid (by simp)⟩
    case round =>
      obtain ⟨k, hk, rfl, HA⟩ := hrel
      by_cases hlt : k < l.length
      · obtain ⟨b, off, rfl, hsrc⟩ := hcells k _ (ints_at l k hlt)
        have hki : (k : Int) < (l.length : Int) := by omega
        generalize hy : l[k] = y at hsrc
        have HY := Lib.hid hy; clear hy
        cases hq : Pl.strokeB y
        · have HQ := Lib.hid (all_take_no Pl.strokeB l k hlt y HY.out hq)
          clear HY HA
          go_wp2_with ((go_at_call 28; refine (l2Good_any _ _).mono ?_; rintro e w' ⟨rfl, rfl⟩))
          go_ret
          exact ⟨ret_bool (by rw [E.out, HQ.out]), rfl⟩
        · have HQ := Lib.hid (all_take_next Pl.strokeB l k hlt y HY.out hq HA.out)
          clear HY HA
          go_wp2_with ((go_at_call 28; refine (l2Good_any _ _).mono ?_; rintro e w' ⟨rfl, rfl⟩))
          go_round
          case rel => exact ⟨k + 1, by omega, by go_num, HQ⟩
          case measure => simp [intOf]; omega
      · have HQ := Lib.hid (all_take_all Pl.strokeB l k (by omega) HA.out)
        have hki : ¬ (k : Int) < (l.length : Int) := by omega
        clear HA
        go_wp2
        go_ret
        exact ⟨ret_bool (by rw [E.out, HQ.out]), rfl⟩

set_option maxHeartbeats 400000 in
theorem isFold_any (k : Int) (t : ByteArray) (w : World) (ht : t.size ≤ maxLen) :
    Calls Try.prog 13 #[.agg #[.int .i64 k, .string t]] w fun e w' => e = .returned (.bool (Pl.foldB k t)) ∧ Below w.heap.size w w' := by
  have E : Hid (Pl.foldB k t = (Pl.inB k 13 22 && Pl.inB t.size 1 8 && Pl.allIn 97 122 t.data.toList)) := Lib.hid rfl
  have HB := Lib.hid (Joins.below_alloc1 w (.cells #[.int .i64 k, .string t] 26))
  cases h1 : Pl.inB k 13 22
  · rw [h1, Bool.false_and, Bool.false_and] at E
    go_enter Try.func13, Try.ntmps13
    go_wp2_with ((go_at_call 22; refine (in_any _ _ _ _).mono ?_; rintro e w' ⟨rfl, rfl⟩))
    all_goals go_ret
    all_goals exact ⟨ret_bool E.out.symm, HB.out⟩
  · cases h2 : Pl.inB t.size 1 8
    · rw [h1, h2, Bool.and_false, Bool.false_and] at E
      go_enter Try.func13, Try.ntmps13
      go_wp2_with ((go_at_call 22; refine (in_any _ _ _ _).mono ?_; rintro e w' ⟨rfl, rfl⟩))
      all_goals go_ret
      all_goals exact ⟨ret_bool E.out.symm, HB.out⟩
    · rw [h1, h2, Bool.and_true, Bool.true_and] at E
      go_enter Try.func13, Try.ntmps13
      go_wp2_with (first | (go_at_call 22; refine (in_any _ _ _ _).mono ?_; rintro e w' ⟨rfl, rfl⟩) | (go_at_call 25; refine (areLetters_any _ _ ht).mono ?_; rintro e w' ⟨rfl, rfl⟩))
      all_goals go_ret
      all_goals exact ⟨ret_bool E.out.symm, HB.out⟩

end Go.Proofs.Ytibchndfndgdeaa

namespace Go.Proofs.Ytibchndfndgdeaa
open Go.RowKit

theorem CellsAt.news {w : World} {b off : Nat} {xs : List Value} (h : CellsAt w (some ⟨b, off, none⟩) xs) : ∀ j u, xs[j]? = some u → w.cell? ((⟨b, off, none⟩ : Addr).add j) = some u := by
  intro j u hj
  obtain ⟨b', off', h1, h2⟩ := h j u hj
  cases h1
  rw [Addr.add_lit]; exact h2
theorem CellsAt.pre {w : World} {a : Option Addr} {xs : List Value} (h : CellsAt w a xs) (n : Nat) : CellsAt w a (xs.take n) := fun j u hj => h j u (by
  rw [List.getElem?_take] at hj
  split at hj
  · exact hj
  · cases hj)
theorem ints_one (l : List Int) : ∀ u ∈ ints l, u.oneCell' = true := by
  intro u hu
  simp only [ints, List.mem_map] at hu
  obtain ⟨n, _, rfl⟩ := hu
  rfl

theorem one_news (w : World) (x : Int) : ∀ j u, (ints [x])[j]? = some u → (w.alloc (.cells #[.int .i64 x] 3)).cell? ((⟨w.heap.size, 0, none⟩ : Addr).add j) = some u := by
  intro j u hj
  rw [Addr.add_lit, Nat.zero_add, World.cell?_alloc_mark]
  simpa [ints] using hj
theorem ints_snoc (l : List Int) (x : Int) : ints (l ++ [x]) = ints l ++ ints [x] := by simp [ints]

/-- an append of integers to a row of the call's own -/
theorem app_int {ops : Array Oper} {rest : List Oper} {o : Oper} {a : Act} {w : World} {Q : Exit → Act → World → Prop} (hgd : o.guard = none) (s x : Operand)
    (ho : o.op = .call { callee := .builtin .append, args := #[s, x], argTypes := #[24, 24] })
    (base : Nat) (v : Value) (n : Nat) (xs : List Value) (hs : a.eval s = v) (hown : w.ownsRow base 3 1 v n xs)
    (ad : Addr) (m c : Nat) (l : List Int) (hx : a.eval x = .slice (some ad) m c) (hl : l.length = m) (hnews : ∀ j u, (ints l)[j]? = some u → w.cell? (ad.add j) = some u)
    (hnm : n + m ≤ 4194304) (hbase : base ≤ w.heap.size)
    (h : ∀ v' w', w'.ownsRow base 3 1 v' (n + m) (xs ++ ints l) → w.grownBy w' v.ownBlock → wpList Try.prog ops Q rest (a.put o.dst v') w') : wpList Try.prog ops Q (o :: rest) a w := by
  obtain ⟨i0, hi, hz0, hz1, hz2⟩ := info_parts Try.infoInt
  exact wpList_append_own w hgd s x 24 ho base 3 i0 (.int .i64 0) 1 8 Try.underlying24 hi hz0 hz1 hz2 rfl (by decide) v n xs hs hown ad m c (ints l) hx (by rw [ints_length, hl, Nat.mul_one]) hnews (ints_one l)
    (by unfold maxLen; omega) (by omega) hbase (fun v' w' h1 h2 _ => h v' w' h1 h2)

set_option maxHeartbeats 400000 in
theorem copyOf_any (b off n c : Nat) (l : List Int) (w : World) (hn : l.length = n) (hc : CellsAt w (some ⟨b, off, none⟩) (ints l)) (hl : n ≤ 1048576) :
    Calls Try.prog 26 #[.slice (some ⟨b, off, none⟩) n c] w (RetRow 3 1 w.heap.size w n (ints l)) := by
  have HC := Lib.hid ((hc.keep (Joins.below_alloc1 w (.cells #[] 3))).news)
  have HO := Lib.hid (World.ownsRow_made (base := w.heap.size) (e := 3) (size := 1) w #[] 0 (Nat.le_refl _) (by unfold maxLen; omega) rfl)
  have HB := Lib.hid (Joins.below_alloc1 w (.cells #[] 3))
  clear hc
  go_enter Try.func26, Try.ntmps26
  go_wp2_with (at_builtin; refine app_int rfl _ _ rfl w.heap.size _ 0 [] rfl HO.out ⟨b, off, none⟩ n c l rfl hn HC.out (by omega) (by simp) ?_; intro v1 w1 hown1 hg1)
  have hb1 := HB.out.grown hg1 (by simp) (fun k hk => by cases hk; exact Nat.le_refl _)
  have HO1 := Lib.hid hown1; have HB1 := Lib.hid hb1
  clear HO HB HC hown1 hg1 hb1
  go_wp2
  go_ret
  exact ⟨_, rfl, by have := HO1.out; simpa using this, HB1.out⟩

set_option maxHeartbeats 400000 in
theorem withLast_any (b off c : Nat) (l : List Int) (x : Int) (w : World) (hc : CellsAt w (some ⟨b, off, none⟩) (ints l)) (hcap : l.length ≤ c) (hl : l.length ≤ 1048576) (h1 : 1 ≤ l.length) :
    Calls Try.prog 14 #[.slice (some ⟨b, off, none⟩) l.length c, .int .i64 x] w (RetRow 3 1 w.heap.size w l.length (ints (Pl.withLast l x))) := by
  have HK := Lib.hid (copyOf_any b off (l.length - 1) c (l.take (l.length - 1)) w (by simp) (by have := hc.pre (l.length - 1); rwa [ints, ← List.map_take] at this) (by omega))
  clear hc
  go_enter Try.func14, Try.ntmps14
  go_wp2_with (first
    | (at_builtin; have HO2 := HO; refine app_int rfl _ _ rfl w.heap.size _ (l.length - 1) (ints (l.take (l.length - 1))) rfl (HO2.out.alloc _) ⟨_, 0, none⟩ 1 1 [x] rfl rfl (one_news _ x) (by omega) (by have := HB.out.size; simp; omega) ?_; intro v2 w2 hown2 hg2)
    | (go_at_call 26; refine HK.out.mono ?_; rintro e w1 ⟨v1, rfl, hown1, hb1⟩; have HO := Lib.hid hown1; have HB := Lib.hid hb1; clear hown1 hb1))
  have HB2 := Lib.hid (((HB.out.alloc HB.out.size (.cells #[.int .i64 x] 3))).grown hg2 (by have := HB.out.size; simp; omega) (fun k hk => (HO.out.lt k hk).1))
  have HO2 := Lib.hid hown2
  clear HB HO hown2 hg2
  go_ret
  refine ⟨_, rfl, ?_, HB2.out⟩
  have h := HO2.out
  rw [← ints_snoc, show l.length - 1 + 1 = l.length by omega] at h
  exact h

end Go.Proofs.Ytibchndfndgdeaa

namespace Go.Proofs.Ytibchndfndgdeaa
open Go.RowKit

set_option maxHeartbeats 800000 in
theorem l10Fold_any (k : Int) (t : ByteArray) (w : World) (ht : t.size ≤ maxLen) :
    Calls Try.prog 16 #[.agg #[.int .i64 k, .string t]] w fun e w' => e = .returned (.bool (Pl.foldB k t)) ∧ Below w.heap.size w w' := by
  have E : Hid (Pl.foldB k t = (Pl.inB k 13 22 && Pl.inB t.size 1 8 && Pl.allIn 97 122 t.data.toList)) := Lib.hid rfl
  have HB := Lib.hid (Joins.below_alloc1 w (.cells #[.int .i64 k, .string t] 26))
  unfold maxLen at ht
  go_enter Try.func16, Try.ntmps16
  go_wp2
  go_loop [3] (fun i => ∃ n : Nat, n ≤ t.size ∧ i = .int .i64 n ∧ Pl.allIn 97 122 (t.data.toList.take n) = true) (fun i => t.size - (intOf i).toNat)
  case atStart => exact ⟨0, Nat.zero_le _, rfl, rfl⟩
  case round =>
    obtain ⟨n, hn, rfl, hall⟩ := hrel
    have HA := Lib.hid hall; clear hall
    by_cases hlt : n < t.size
    · by_cases h1 : t[n].toNat < 97 ∨ 122 < t[n].toNat
      · have HV := Lib.hid (Pl.allIn_of_bad 97 122 t n hlt h1)
        go_wp2
        all_goals go_ret
        all_goals exact ⟨ret_bool (by rw [E.out, HV.out, Bool.and_false]), HB.out⟩
      · have HT := Lib.hid (Pl.allIn_take_ok 97 122 t n hlt HA.out (by omega) (by omega))
        go_wp2
        go_round
        case rel => exact ⟨n + 1, by omega, by go_num, HT.out⟩
        case measure => simp [intOf]; omega
    · have HT := Lib.hid (Pl.allIn_take_all 97 122 t n (by omega) HA.out)
      cases h1 : Pl.inB k 13 22
      · rw [h1, Bool.false_and, Bool.false_and] at E
        go_wp2_with ((go_at_call 27; refine (l1In_any _ _ _ _).mono ?_; rintro e w' ⟨rfl, rfl⟩))
        all_goals go_ret
        all_goals exact ⟨ret_bool E.out.symm, HB.out⟩
      · rw [h1, Bool.true_and, HT.out, Bool.and_true] at E
        cases h2 : Pl.inB t.size 1 8
        · rw [h2] at E
          go_wp2_with ((go_at_call 27; refine (l1In_any _ _ _ _).mono ?_; rintro e w' ⟨rfl, rfl⟩))
          all_goals go_ret
          all_goals exact ⟨ret_bool E.out.symm, HB.out⟩
        · rw [h2] at E
          go_wp2_with ((go_at_call 27; refine (l1In_any _ _ _ _).mono ?_; rintro e w' ⟨rfl, rfl⟩))
          all_goals go_ret
          all_goals exact ⟨ret_bool E.out.symm, HB.out⟩

theorem below_pastF {W w' : World} {o : Obj} (h1 : Below (W.alloc o).heap.size (W.alloc o) w') : Below W.heap.size W w' :=
  (Joins.below_alloc1 W o).trans (h1.mono (Joins.below_alloc1 W o).size)
theorem wrap_pow {j : Nat} (h : j ≤ 22) : wrap64 ((2 : Int) ^ j) = ((2 ^ j : Nat) : Int) := by
  have hk : 2 ^ j ≤ 2 ^ 22 := Nat.pow_le_pow_right (by omega) h
  rw [show ((2 : Int) ^ j) = ((2 ^ j : Nat) : Int) by simp]
  generalize 2 ^ j = x at hk ⊢
  exact IntWalk.wrap64_in _ ⟨by omega, by omega⟩

theorem any_take_step {l : List (Int × ByteArray)} {x : Int} (m : Nat) (h : m < l.length) (hp : (l[m].1 == x) = false) (ha : ((l.take m).any fun q => q.1 == x) = false) : ((l.take (m + 1)).any fun q => q.1 == x) = false := by
  rw [List.take_add_one, List.getElem?_eq_getElem h, List.any_append, ha]
  simpa using hp
theorem any_take_found {l : List (Int × ByteArray)} {x : Int} (m k : Nat) (h : m < l.length) (hm : m < k) (hp : (l[m].1 == x) = true) : ((l.take k).any fun q => q.1 == x) = true :=
  List.any_eq_true.2 ⟨l[m], List.mem_take_iff_getElem.2 ⟨m, by omega, rfl⟩, hp⟩

end Go.Proofs.Ytibchndfndgdeaa

namespace Go.Proofs.Ytibchndfndgdeaa
open Go.RowKit

theorem last_cell {w : World} {a : Option Addr} {l : List Int} (hc : CellsAt w a (ints l)) (h : 1 ≤ l.length) : ∃ b off, a = some ⟨b, off, none⟩ ∧ w.cell? ⟨b, off + (l.length - 1), none⟩ = some (.int .i64 (Pl.lastI l)) := by
  obtain ⟨b, off, h1, h2⟩ := hc (l.length - 1) (.int .i64 (Pl.lastI l)) (by
    rw [ints_at l (l.length - 1) (by omega)]
    unfold Pl.lastI
    rw [List.getD_eq_getElem?_getD, List.getElem?_eq_getElem (by omega)]
    rfl)
  exact ⟨b, off, h1, h2⟩
theorem pow_bd {j : Nat} (h : j ≤ 22) : (1 : Int) ≤ (2 : Int) ^ j ∧ (2 : Int) ^ j ≤ 4194304 := by
  have hk : 2 ^ j ≤ 2 ^ 22 := Nat.pow_le_pow_right (by omega) h
  have hp : 0 < 2 ^ j := Nat.two_pow_pos _
  have e : (2 : Int) ^ j = ((2 ^ j : Nat) : Int) := by simp
  rw [e]
  generalize 2 ^ j = x at hk hp
  omega
theorem wrap_powI {j : Nat} (h : j ≤ 22) : wrap64 ((2 : Int) ^ j) = (2 : Int) ^ j := IntWalk.wrap64_in _ ⟨by have := pow_bd h; omega, by have := pow_bd h; omega⟩
theorem un_no {l : List Int} {k : Int} (h : Pl.unOk l k = false) : Pl.un l k = [] := by simp [Pl.un, h]
theorem un_yes {l : List Int} {k : Int} (h : Pl.unOk l k = true) : Pl.un l k = Pl.withLast l (Pl.lastI l - 2 ^ k.toNat) := by simp [Pl.un, h]

set_option maxRecDepth 20000 in
set_option maxHeartbeats 1600000 in
theorem unfold_any (b off cap : Nat) (l : List Int) (k : Int) (t : ByteArray) (w : World) (hc : CellsAt w (some ⟨b, off, none⟩) (ints l)) (hcap : l.length ≤ cap) (h1 : Pl.outlineB l = true) (h2 : Pl.foldB k t = true) :
    Calls Try.prog 17 #[.agg #[.int .i64 k, .string t], .slice (some ⟨b, off, none⟩) l.length cap] w (RetRowB 3 1 w.heap.size w (Pl.un l k).length (ints (Pl.un l k)) (Pl.unOk l k)) := by
  have z1 := Pl.outline_len h1
  obtain ⟨n, hn, hn1, hn2⟩ := Pl.stroke_nat (Pl.outline_last h1)
  obtain ⟨j, rfl, hj1, hj2⟩ := Pl.fold_key h2
  have HB := Lib.hid (Joins.below_alloc1 w (.cells #[.int .i64 (j : Int), .string t] 26))
  have HC := Lib.hid (hc.keep HB.out)
  obtain ⟨b', off', he, hlast⟩ := last_cell HC.out z1.1
  cases he
  rw [hn] at hlast
  have hw := wrap_powI hj2
  have hp := pow_bd hj2
  have hp1 := hp.1; have hp2 := hp.2
  clear hc h1 h2 hp
  have hsh := Pl.shr_key n j hn2
  cases hq : n.testBit j
  · have q1 : (bits .and .i64 ((n : Int) / 2 ^ j) 1 == 0) = true := by rw [hsh, hq]; rfl
    have E := Lib.hid (show Pl.unOk l j = false by simp [Pl.unOk, Pl.keyOn, hn, hq])
    rw [un_no E.out, E.out]
    clear hsh E
    go_enter Try.func17, Try.ntmps17
    go_wp2
    go_ret2
    exact ⟨_, rfl, World.ownsRow_nil _ _ _ _, HB.out⟩
  · have q1 : (bits .and .i64 ((n : Int) / 2 ^ j) 1 == 0) = false := by rw [hsh, hq]; rfl
    clear hsh
    cases hq2 : ((n : Int) == 2 ^ j)
    · have p2 := bF hq2
      have E := Lib.hid (show Pl.unOk l j = true by simp only [Pl.unOk, Pl.keyOn, hn, Int.toNat_natCast, hq, hq2]; rfl)
      have F := Lib.hid (show Pl.lastI l - 2 ^ ((j : Int)).toNat = (n : Int) - 2 ^ j by rw [hn]; rfl)
      rw [un_yes E.out, E.out, F.out, Pl.withLast_length _ _ z1.1]
      clear E F
      go_enter Try.func17, Try.ntmps17
      go_wp2_with (go_at_call 14; refine (withLast_any b off cap l _ _ HC.out hcap (by omega) z1.1).mono ?_; rintro e w3 ⟨v3, rfl, hown3, hb3⟩)
      go_ret2
      exact ⟨_, rfl, own_base hown3 HB.out.size, HB.out.trans (hb3.mono HB.out.size)⟩
    · have p2 := bT hq2
      have E := Lib.hid (show Pl.unOk l j = false by simp only [Pl.unOk, Pl.keyOn, hn, Int.toNat_natCast, hq, hq2]; rfl)
      rw [un_no E.out, E.out]
      clear E
      go_enter Try.func17, Try.ntmps17
      go_wp2
      all_goals go_ret2
      all_goals exact ⟨_, rfl, World.ownsRow_nil _ _ _ _, HB.out⟩

theorem unfold_bad {l : List Int} {k : Int} {t : ByteArray} (h : (Pl.outlineB l && Pl.foldB k t) = false) : Pl.unfoldOut l k t = [] ∧ Pl.unfoldOk l k t = false := by
  have h2 : Pl.unfoldOk l k t = false := by unfold Pl.unfoldOk; rw [h, Bool.false_and]
  exact ⟨by simp [Pl.unfoldOut, h2], h2⟩
theorem unfold_good {l : List Int} {k : Int} {t : ByteArray} (h1 : Pl.outlineB l = true) (h2 : Pl.foldB k t = true) : Pl.unfoldOut l k t = Pl.un l k ∧ Pl.unfoldOk l k t = Pl.unOk l k := by
  have h3 : Pl.unfoldOk l k t = Pl.unOk l k := by unfold Pl.unfoldOk; rw [h1, h2]; rfl
  exact ⟨by unfold Pl.unfoldOut Pl.un; rw [h3], h3⟩

set_option maxRecDepth 20000 in
set_option maxHeartbeats 1600000 in
theorem Unfold_any (v : Value) (l : List Int) (k : Int) (t : ByteArray) (w : World) (hr : Rows w v l.length 1 (ints l)) (hl : l.length ≤ 1048576) (ht : t.size ≤ maxLen) :
    Calls Try.prog 8 #[v, .agg #[.int .i64 k, .string t]] w (RetRowB 3 1 w.heap.size w (Pl.unfoldOut l k t).length (ints (Pl.unfoldOut l k t)) (Pl.unfoldOk l k t)) := by
  have HB := Lib.hid (Joins.below_alloc1 w (.cells #[.int .i64 k, .string t] 26))
  have HR := Lib.hid (hr.keep HB.out)
  have ca : (w.alloc (.cells #[.int .i64 k, .string t] 26)).cell? ⟨w.heap.size, 0, none⟩ = some (.int .i64 k) := by simp
  have cb : (w.alloc (.cells #[.int .i64 k, .string t] 26)).cell? ⟨w.heap.size, 1, none⟩ = some (.string t) := by simp
  clear hr
  cases h1 : Pl.outlineB l
  · have E := Lib.hid (unfold_bad (k := k) (t := t) (by rw [h1]; rfl))
    rw [E.out.1, E.out.2]
    clear E
    go_enter Try.func8, Try.ntmps8
    go_wp2_with (go_at_call 12; refine (IsValidOutline_any _ l _ HR.out hl).mono ?_; rintro e w1 ⟨he, hb1⟩; rw [h1] at he; subst he)
    go_ret2
    exact ⟨_, rfl, World.ownsRow_nil _ _ _ _, HB.out.trans (hb1.mono HB.out.size)⟩
  · cases h2 : Pl.foldB k t
    · have E := Lib.hid (unfold_bad (l := l) (k := k) (t := t) (by rw [h1, h2]; rfl))
      rw [E.out.1, E.out.2]
      clear E
      go_enter Try.func8, Try.ntmps8
      go_wp2_with (first
        | (go_at_call 12; refine (IsValidOutline_any _ l _ HR.out hl).mono ?_; rintro e w1 ⟨he, hb1⟩; rw [h1] at he; subst he; have ca1 := keepc hb1 ca; have cb1 := keepc hb1 cb)
        | (go_at_call 13; refine (isFold_any _ _ _ ht).mono ?_; rintro e w2 ⟨he, hb2⟩; rw [h2] at he; subst he))
      go_ret2
      exact ⟨_, rfl, World.ownsRow_nil _ _ _ _, (HB.out.trans (hb1.mono HB.out.size)).trans (hb2.mono (Nat.le_trans HB.out.size hb1.size))⟩
    · have E := Lib.hid (unfold_good h1 h2)
      rw [E.out.1, E.out.2]
      clear E
      have z1 := Pl.outline_len h1
      have HR2 := HR.out
      obtain ⟨a, cap, rfl, hcap, _, _, _, hcells⟩ := HR2
      obtain ⟨b, off, rfl, -⟩ := last_cell hcells z1.1
      have HC := Lib.hid hcells
      clear hcells
      go_enter Try.func8, Try.ntmps8
      go_wp2_with (first
        | (go_at_call 17; refine (unfold_any b off cap l k t _ (HC2.out) hcap h1 h2).mono ?_; rintro e w3 ⟨v3, rfl, hown3, hb3⟩)
        | (go_at_call 12; refine (IsValidOutline_any _ l _ HR.out hl).mono ?_; rintro e w1 ⟨he, hb1⟩; rw [h1] at he; subst he; have ca1 := keepc hb1 ca; have cb1 := keepc hb1 cb)
        | (go_at_call 13; refine (isFold_any _ _ _ ht).mono ?_; rintro e w2 ⟨he, hb2⟩; rw [h2] at he; subst he; have ca2 := keepc hb2 ca1; have cb2 := keepc hb2 cb1; have HC2 := Lib.hid ((HC.out.keep hb1).keep hb2); have HB2 := Lib.hid ((HB.out.trans (hb1.mono HB.out.size)).trans (hb2.mono (Nat.le_trans HB.out.size hb1.size)))))
      go_ret2
      exact ⟨_, rfl, own_base hown3 HB2.out.size, HB2.out.trans (hb3.mono HB2.out.size)⟩

end Go.Proofs.Ytibchndfndgdeaa

namespace Go.Proofs.Ytibchndfndgdeaa
open Go.RowKit

theorem step_app_int {ops : Array Oper} {o : Oper} {a : Act} {w : World} {K : Act → World → Prop} {Q : Exit → Act → World → Prop} {E : Prop} (hgd : o.guard = none) (s x : Operand)
    (ho : o.op = .call { callee := .builtin .append, args := #[s, x], argTypes := #[24, 24] })
    (base : Nat) (v : Value) (n : Nat) (xs : List Value) (hs : a.eval s = v) (hown : w.ownsRow base 3 1 v n xs)
    (ad : Addr) (m c : Nat) (l : List Int) (hx : a.eval x = .slice (some ad) m c) (hl : l.length = m) (hnews : ∀ j u, (ints l)[j]? = some u → w.cell? (ad.add j) = some u)
    (hnm : n + m ≤ 4194304) (hbase : base ≤ w.heap.size)
    (h : ∀ v' w', w'.ownsRow base 3 1 v' (n + m) (xs ++ ints l) → w.grownBy w' v.ownBlock → K (a.put o.dst v') w') : if Region.wanted o (yielded ops a.tmps) = true then Oper.wp Try.prog o a w K Q else E := by
  have hw : Region.wanted o (yielded ops a.tmps) = true := by simp [Region.wanted, hgd]
  rw [if_pos hw]
  obtain ⟨i0, hi, hz0, hz1, hz2⟩ := info_parts Try.infoInt
  exact wp_append_own w s x 24 ho base 3 i0 (.int .i64 0) 1 8 Try.underlying24 hi hz0 hz1 hz2 rfl (by decide) v n xs hs hown ad m c (ints l) hx (by rw [ints_length, hl, Nat.mul_one]) hnews (ints_one l)
    (by unfold maxLen; omega) (by omega) hbase (fun v' w' h1 h2 _ => h v' w' h1 h2)

theorem and_bitI (n j : Nat) (h : n < 8388608) (hj : j ≤ 22) : (bits .and .i64 (n : Int) ((2 : Int) ^ j) == 0) = !n.testBit j := by
  have e := Pl.and_bit n j h hj
  have e2 : ((2 ^ j : Nat) : Int) = (2 : Int) ^ j := by simp
  rw [e2] at e
  rw [e]
  have hp := (pow_bd hj).1
  cases hq : n.testBit j
  · rfl
  · rw [if_pos rfl]
    have : ¬ ((2 : Int) ^ j) = 0 := by omega
    simpa using this
theorem news_at {w w' : World} {b off : Nat} {l : List Int} (hc : CellsAt w (some ⟨b, off, none⟩) (ints l)) (n : Nat) (hb : Below w.heap.size w w') : ∀ j u, (ints (l.take n))[j]? = some u → w'.cell? ((⟨b, off, none⟩ : Addr).add j) = some u := by
  have h := ((hc.keep hb).pre n)
  rw [ints, ← List.map_take] at h
  exact h.news
theorem made0 {w W : World} (h : w.heap.size ≤ W.heap.size) : (W.alloc (.cells #[] 3)).ownsRow w.heap.size 3 1 (.slice (some ⟨W.heap.size, 0, none⟩) 0 0) 0 [] :=
  World.ownsRow_made W #[] 0 h (by unfold maxLen; omega) rfl

theorem made1 (w : World) (o : Obj) : ((w.alloc o).alloc (.cells #[] 3)).ownsRow w.heap.size 3 1 (.slice (some ⟨w.heap.size + 1, 0, none⟩) 0 0) 0 [] := by
  have h := made0 (w := w) (W := w.alloc o) (by simp)
  rwa [World.size_alloc] at h
theorem madeA (w : World) (o : Obj) : (((w.alloc o).drew).alloc (.cells #[] 3)).ownsRow w.heap.size 3 1 (.slice (some ⟨w.heap.size + 1, 0, none⟩) 0 0) 0 [] := by
  have h := made0 (w := w) (W := (w.alloc o).drew) (by simp)
  rwa [size_drew, World.size_alloc] at h
theorem madeC (w : World) (o o2 : Obj) : ((((w.alloc o).drew).alloc o2).alloc (.cells #[] 3)).ownsRow w.heap.size 3 1 (.slice (some ⟨w.heap.size + 1 + 1, 0, none⟩) 0 0) 0 [] := by
  have h := made0 (w := w) (W := ((w.alloc o).drew).alloc o2) (by simp; omega)
  rwa [World.size_alloc, size_drew, World.size_alloc] at h
theorem cell_news {w : World} {b : Nat} {x : Int} (h : w.cell? ⟨b, 0, none⟩ = some (.int .i64 x)) : ∀ j u, (ints [x])[j]? = some u → w.cell? ((⟨b, 0, none⟩ : Addr).add j) = some u := by
  intro j u hj
  have hj0 : j = 0 := by
    cases j with
    | zero => rfl
    | succ j => simp [ints] at hj
  subst hj0
  rw [Addr.add_lit, h]
  simpa [ints] using hj
theorem cellB (w : World) (o o2 : Obj) (x : Int) : ((((w.alloc o).drew).alloc o2).alloc (.cells #[.int .i64 x] 3)).cell? ⟨w.heap.size + 1 + 1, 0, none⟩ = some (.int .i64 x) :=
  Joins.cell_alloc_mark_at _ #[.int .i64 x] _ _ _ 0 (by rw [World.size_alloc, size_drew, World.size_alloc])
theorem cellC (w : World) (o o2 : Obj) (x : Int) : ((((w.alloc o).drew).alloc (.cells #[.int .i64 x] 3)).alloc o2).cell? ⟨w.heap.size + 1, 0, none⟩ = some (.int .i64 x) := by
  have h : (((w.alloc o).drew).alloc (.cells #[.int .i64 x] 3)).cell? ⟨w.heap.size + 1, 0, none⟩ = some (.int .i64 x) :=
    Joins.cell_alloc_mark_at _ #[.int .i64 x] _ _ _ 0 (by rw [size_drew, World.size_alloc])
  exact keepc (Joins.below_alloc1 _ _) h
theorem row_formI {w : World} {base size n : Nat} {e : TypeId} {v : Value} {xs : List Value} (h : w.ownsRow base e size v n xs) : ∃ ao co, v = .slice ao n co := by
  rcases Joins.ownsRow_forms h with ⟨h1, h2⟩ | ⟨g, c, h1⟩
  · exact ⟨none, 0, by rw [h1, h2]⟩
  · exact ⟨_, c, h1⟩
theorem ret_sliceb {v : Value} {x y : Bool} (h : x = y) : Ending.returned (.tuple #[v, .bool x]) = .returned (.tuple #[v, .bool y]) := by rw [h]
theorem grown2 {w W w1 : World} {row : Option Nat} (hg : W.grownBy w1 row) (h : Below w.heap.size w W) (hk : ∀ k, row = some k → w.heap.size ≤ k) : Below w.heap.size w w1 := h.grown hg h.size hk
theorem wrapI {x : Int} (h0 : -9223372036854775808 ≤ x) (h1 : x < 9223372036854775808) : IntKind.i64.wrap x = x := by
  simp [IntKind.wrap, IntKind.bits, IntKind.signed]; omega

set_option maxRecDepth 20000 in
set_option maxHeartbeats 1600000 in
theorem l10Unfold_any (b off cap : Nat) (l : List Int) (k : Int) (t : ByteArray) (w : World) (hc : CellsAt w (some ⟨b, off, none⟩) (ints l)) (hcap : l.length ≤ cap) (h1 : Pl.outlineB l = true) (h2 : Pl.foldB k t = true) :
    Calls Try.prog 18 #[.slice (some ⟨b, off, none⟩) l.length cap, .agg #[.int .i64 k, .string t]] w (RetRow 3 1 w.heap.size w (Pl.un l k).length (ints (Pl.un l k))) := by
  have z1 := Pl.outline_len h1
  obtain ⟨n, hn, hn1, hn2⟩ := Pl.stroke_nat (Pl.outline_last h1)
  obtain ⟨j, rfl, hj1, hj2⟩ := Pl.fold_key h2
  have HB := Lib.hid (Joins.below_alloc1 w (.cells #[.int .i64 (j : Int), .string t] 26))
  have HC := Lib.hid (hc.keep HB.out)
  obtain ⟨b', off', he, hlast0⟩ := last_cell hc z1.1
  cases he
  have hbl : b < w.heap.size := World.block_lt_of_cell? _ _ hlast0
  have hlast := keepc HB.out hlast0
  clear hlast0
  rw [hn] at hlast
  have hw := wrap_powI hj2
  have hp := pow_bd hj2
  have hp1 := hp.1; have hp2 := hp.2
  clear hc h1 h2 hp
  have hsh := and_bitI n j hn2 hj2
  cases hq : n.testBit j
  · have q1 : (bits .and .i64 (n : Int) (2 ^ j) == 0) = true := by rw [hsh, hq]; rfl
    have E := Lib.hid (show Pl.unOk l j = false by simp [Pl.unOk, Pl.keyOn, hn, hq])
    rw [un_no E.out]
    clear hsh E
    have HM := Lib.hid (made1 w (.cells #[.int .i64 (j : Int), .string t] 26))
    go_enter Try.func18, Try.ntmps18
    go_wp2
    all_goals go_ret
    all_goals exact ⟨_, rfl, HM.out, HB.out.alloc HB.out.size _⟩
  · have q1 : (bits .and .i64 (n : Int) (2 ^ j) == 0) = false := by rw [hsh, hq]; rfl
    clear hsh
    cases hq2 : ((n : Int) == 2 ^ j)
    · have p2 := bF hq2
      have E := Lib.hid (show Pl.unOk l j = true by simp only [Pl.unOk, Pl.keyOn, hn, Int.toNat_natCast, hq, hq2]; rfl)
      have F := Lib.hid (show Pl.lastI l - 2 ^ ((j : Int)).toNat = (n : Int) - 2 ^ j by rw [hn]; rfl)
      rw [un_yes E.out, F.out, Pl.withLast_length _ _ z1.1]
      clear E F
      have i4 : IntKind.i64.wrap ((n : Int) - 2 ^ j) = (n : Int) - 2 ^ j := wrapI (by omega) (by omega)
      obtain ⟨m, hm⟩ : ∃ m, l.length = m + 1 := ⟨l.length - 1, by omega⟩
      have hm1 : l.length - 1 = m := by omega
      rw [hm1] at hlast
      rw [hm] at hcap ⊢
      have i1 : (0 : Int) ≤ (m : Int) := by omega
      have i2 : (m : Int) < (m : Int) + 1 := by omega
      have i3 : IntKind.i64.wrap (m : Int) = (m : Int) := Pl.wrap_nat _ (by omega)
      have i5 : (m : Int) ≤ (cap : Int) := by omega
      have htk : (l.take m).length = m := by simp; omega
      go_enter Try.func18, Try.ntmps18
      go_wp2_with fail
      go_region_held3 (fun w' => w'.cell? ⟨b, off + m, none⟩ = some (.int .i64 (n : Int))) (first | exact e2 | exact e1 | exact hlast | go_keep) (first
        | (have hx := hown1; refine step_app_int rfl (.tmp 36) (.tmp 44) rfl w.heap.size _ m (ints (l.take m)) rfl (by first | exact hown1 | exact hown1.alloc _) ⟨_, 0, none⟩ 1 1 [(n : Int) - 2 ^ j] rfl rfl (by first | exact one_news _ _ | exact cell_news (e3 _ (cellB _ _ _ _) (fun h => absurd (show w.heap.size + 1 + 1 = w.heap.size + 1 from Option.some.inj h) (by omega))) | exact cell_news (e4 _ (cellC _ _ _ _) (fun h => absurd (show w.heap.size + 1 = w.heap.size + 1 + 1 from Option.some.inj h) (by omega)))) (by omega) (by have := hg1.size; simp at this ⊢; omega) ?_; intro v2 w2 hown2 hg2; have e2 : w2.cell? ⟨b, off + m, none⟩ = some (.int .i64 (n : Int)) := hg2.cell (by first | exact e1 | exact keepc (Joins.below_alloc1 _ _) e1) (fun h => absurd (hown1.lt b h.symm).1 (by omega)); have B2 := Lib.hid (grown2 hg2 (by first | exact B1.out | exact B1.out.alloc B1.out.size _) (fun k hk => (hown1.lt k hk).1)))
        | (refine step_app_int rfl (.tmp 31) (.tmp 35) rfl w.heap.size _ 0 [] rfl (by first | exact madeA _ _ | exact (madeA _ _).alloc _ | exact madeC _ _ _) ⟨b, off, none⟩ m cap (l.take m) rfl htk (by exact news_at HC.out m (by repeat (first | with_reducible exact Below.refl _ _ | with_reducible assumption | with_reducible refine Below.alloc ?_ ?_ _ | with_reducible refine Below.setCell ?_ ?_ _ | with_reducible refine Below.drew ?_ | with_reducible refine below_drewN ?_ _ | with_reducible refine Below.trans ?_ (Below.mono (by assumption) ?_) | omega | ((repeat (first | rw [World.size_alloc] | rw [size_setCell] | rw [size_drewN] | rw [size_drew])); omega) | exact Nat.le_refl _ | (dsimp only; omega) | (simp [World.setCell]; omega)))) (by omega) (by first | (simp; done) | (simp; omega)) ?_; intro v1 w1 hown1 hg1; rw [Nat.zero_add, List.nil_append] at hown1; have e1 : w1.cell? ⟨b, off + m, none⟩ = some (.int .i64 (n : Int)) := hg1.cell (keepc (by repeat (first | with_reducible exact Below.refl _ _ | with_reducible assumption | with_reducible refine Below.alloc ?_ ?_ _ | with_reducible refine Below.setCell ?_ ?_ _ | with_reducible refine Below.drew ?_ | with_reducible refine below_drewN ?_ _ | with_reducible refine Below.trans ?_ (Below.mono (by assumption) ?_) | omega | ((repeat (first | rw [World.size_alloc] | rw [size_setCell] | rw [size_drewN] | rw [size_drew])); omega) | exact Nat.le_refl _ | (dsimp only; omega) | (simp [World.setCell]; omega))) hlast) (fun h => by first | exact absurd (show b = w.heap.size + 1 from Option.some.inj h) (by omega) | exact absurd (show b = w.heap.size + 1 + 1 from Option.some.inj h) (by omega)); have e3 := fun (u : Value) h => hg1.cell (a := ⟨w.heap.size + 1 + 1, 0, none⟩) (v := u) h; have e4 := fun (u : Value) h => hg1.cell (a := ⟨w.heap.size + 1, 0, none⟩) (v := u) h; have B1 := Lib.hid (grown2 (w := w) hg1 (by repeat (first | with_reducible exact Below.refl _ _ | with_reducible assumption | with_reducible refine Below.alloc ?_ ?_ _ | with_reducible refine Below.setCell ?_ ?_ _ | with_reducible refine Below.drew ?_ | with_reducible refine below_drewN ?_ _ | with_reducible refine Below.trans ?_ (Below.mono (by assumption) ?_) | omega | ((repeat (first | rw [World.size_alloc] | rw [size_setCell] | rw [size_drewN] | rw [size_drew])); omega) | exact Nat.le_refl _ | (dsimp only; omega) | (simp [World.setCell]; omega))) (fun k hk => by have h9 := Option.some.inj hk; subst h9; first | exact Nat.le_succ _ | exact Nat.le_trans (Nat.le_succ _) (Nat.le_succ _)))))
      all_goals go_wp2_with fail
      all_goals go_ret
      all_goals
        refine ⟨_, rfl, ?_, B2.out⟩
        have h := hown2
        rw [← ints_snoc] at h
        unfold Pl.withLast
        rw [hm1]
        exact h
    · have p2 := bT hq2
      have E := Lib.hid (show Pl.unOk l j = false by simp only [Pl.unOk, Pl.keyOn, hn, Int.toNat_natCast, hq, hq2]; rfl)
      rw [un_no E.out]
      clear E
      have HM := Lib.hid (made1 w (.cells #[.int .i64 (j : Int), .string t] 26))
      go_enter Try.func18, Try.ntmps18
      go_wp2
      all_goals go_ret
      all_goals exact ⟨_, rfl, HM.out, HB.out.alloc HB.out.size _⟩

set_option maxRecDepth 20000 in
set_option maxHeartbeats 1600000 in
theorem specUnfold_any (v : Value) (l : List Int) (k : Int) (t : ByteArray) (w : World) (hr : Rows w v l.length 1 (ints l)) (hl : l.length ≤ 1048576) (ht : t.size ≤ maxLen) :
    Calls Try.prog 9 #[v, .agg #[.int .i64 k, .string t]] w (RetRowB 3 1 w.heap.size w (Pl.unfoldOut l k t).length (ints (Pl.unfoldOut l k t)) (Pl.unfoldOk l k t)) := by
  have HB := Lib.hid (Joins.below_alloc1 w (.cells #[.int .i64 k, .string t] 26))
  have HR := Lib.hid (hr.keep HB.out)
  have ca : (w.alloc (.cells #[.int .i64 k, .string t] 26)).cell? ⟨w.heap.size, 0, none⟩ = some (.int .i64 k) := by simp
  have cb : (w.alloc (.cells #[.int .i64 k, .string t] 26)).cell? ⟨w.heap.size, 1, none⟩ = some (.string t) := by simp
  clear hr
  cases h1 : Pl.outlineB l
  · have E := Lib.hid (unfold_bad (k := k) (t := t) (by rw [h1]; rfl))
    rw [E.out.1, E.out.2]
    clear E
    go_enter Try.func9, Try.ntmps9
    go_wp2_with (go_at_call 15; refine (l4Good_any _ l _ HR.out hl).mono ?_; rintro e w1 ⟨he, rfl⟩; rw [h1] at he; subst he)
    go_ret2
    exact ⟨_, rfl, World.ownsRow_nil _ _ _ _, HB.out⟩
  · cases h2 : Pl.foldB k t
    · have E := Lib.hid (unfold_bad (l := l) (k := k) (t := t) (by rw [h1, h2]; rfl))
      rw [E.out.1, E.out.2]
      clear E
      go_enter Try.func9, Try.ntmps9
      go_wp2_with (first
        | (go_at_call 15; refine (l4Good_any _ l _ HR.out hl).mono ?_; rintro e w1 ⟨he, rfl⟩; rw [h1] at he; subst he)
        | (go_at_call 16; refine (l10Fold_any _ _ _ ht).mono ?_; rintro e w2 ⟨he, hb2⟩; rw [h2] at he; subst he))
      go_ret2
      exact ⟨_, rfl, World.ownsRow_nil _ _ _ _, HB.out.trans (hb2.mono HB.out.size)⟩
    · have E := Lib.hid (unfold_good h1 h2)
      rw [E.out.1, E.out.2]
      clear E
      have z1 := Pl.outline_len h1
      have HR2 := HR.out
      obtain ⟨a, cap, rfl, hcap, _, _, _, hcells⟩ := HR2
      obtain ⟨b, off, rfl, -⟩ := last_cell hcells z1.1
      have HC := Lib.hid hcells
      clear hcells
      have hlen : Hid (decide (0 < (Pl.un l k).length) = Pl.unOk l k) := Lib.hid (by
        cases hu : Pl.unOk l k
        · rw [un_no hu]; rfl
        · rw [un_yes hu, Pl.withLast_length _ _ z1.1]; exact decide_eq_true z1.1)
      go_enter Try.func9, Try.ntmps9
      go_wp2_with (first
        | (go_at_call 18; refine (l10Unfold_any b off cap l k t _ (HC2.out) hcap h1 h2).mono ?_; rintro e w3 ⟨v3, rfl, hown3, hb3⟩; obtain ⟨ao, co, rfl⟩ := row_formI hown3; have HO3 := Lib.hid hown3; clear hown3)
        | (go_at_call 15; refine (l4Good_any _ l _ HR.out hl).mono ?_; rintro e w1 ⟨he, rfl⟩; rw [h1] at he; subst he)
        | (go_at_call 16; refine (l10Fold_any _ _ _ ht).mono ?_; rintro e w2 ⟨he, hb2⟩; rw [h2] at he; subst he; have ca2 := keepc hb2 ca; have cb2 := keepc hb2 cb; have HC2 := Lib.hid (HC.out.keep hb2); have HB2 := Lib.hid (HB.out.trans (hb2.mono HB.out.size))))
      all_goals go_ret2
      all_goals exact ⟨_, ret_sliceb hlen.out, own_base HO3.out HB2.out.size, HB2.out.trans (hb3.mono HB2.out.size)⟩

end Go.Proofs.Ytibchndfndgdeaa

namespace Go.Proofs.Ytibchndfndgdeaa
open Go.RowKit

theorem into_bad {l : List Int} {k : Int} {t : ByteArray} (h : (Pl.outlineB l && Pl.foldB k t) = false) : Pl.intoOut l k t = [] ∧ Pl.intoOk l k t = false := by
  have h2 : Pl.intoOk l k t = false := by unfold Pl.intoOk; rw [h, Bool.false_and]
  exact ⟨by simp [Pl.intoOut, h2], h2⟩
theorem into_on {l : List Int} {k : Int} {t : ByteArray} (h : Pl.keyOn (Pl.lastI l) k = true) : Pl.intoOut l k t = [] ∧ Pl.intoOk l k t = false := by
  have h2 : Pl.intoOk l k t = false := by unfold Pl.intoOk; rw [h, Bool.not_true, Bool.and_false]
  exact ⟨by simp [Pl.intoOut, h2], h2⟩
theorem into_off {l : List Int} {k : Int} {t : ByteArray} (h1 : Pl.outlineB l = true) (h2 : Pl.foldB k t = true) (h : Pl.keyOn (Pl.lastI l) k = false) : Pl.intoOut l k t = Pl.withLast l (Pl.lastI l + 2 ^ k.toNat) ∧ Pl.intoOk l k t = true := by
  have h2 : Pl.intoOk l k t = true := by unfold Pl.intoOk; rw [h1, h2, h]; rfl
  exact ⟨by simp [Pl.intoOut, h2], h2⟩

theorem madeW (W : World) : (W.drew.alloc (.cells #[] 3)).ownsRow W.heap.size 3 1 (.slice (some ⟨W.heap.size, 0, none⟩) 0 0) 0 [] :=
  made0 (w := W) (W := W.drew) (Nat.le_refl _)
theorem madeW2 (W : World) (o : Obj) : ((W.drew.alloc o).alloc (.cells #[] 3)).ownsRow W.heap.size 3 1 (.slice (some ⟨W.heap.size + 1, 0, none⟩) 0 0) 0 [] := by
  have h := made0 (w := W) (W := W.drew.alloc o) (by rw [World.size_alloc, size_drew]; omega)
  rwa [World.size_alloc, size_drew] at h
theorem cellW2 (W : World) (o : Obj) (x : Int) : ((W.drew.alloc o).alloc (.cells #[.int .i64 x] 3)).cell? ⟨W.heap.size + 1, 0, none⟩ = some (.int .i64 x) :=
  Joins.cell_alloc_mark_at _ #[.int .i64 x] _ _ _ 0 (by rw [World.size_alloc, size_drew])
theorem cellW1 (W : World) (o : Obj) (x : Int) : ((W.drew.alloc (.cells #[.int .i64 x] 3)).alloc o).cell? ⟨W.heap.size, 0, none⟩ = some (.int .i64 x) := by
  have h : (W.drew.alloc (.cells #[.int .i64 x] 3)).cell? ⟨W.heap.size, 0, none⟩ = some (.int .i64 x) :=
    Joins.cell_alloc_mark_at _ #[.int .i64 x] _ _ _ 0 (by rw [size_drew])
  exact keepc (Joins.below_alloc1 _ _) h

set_option maxRecDepth 20000 in
set_option maxHeartbeats 1600000 in
theorem specFoldInto_any (v : Value) (l : List Int) (k : Int) (t : ByteArray) (w : World) (hr : Rows w v l.length 1 (ints l)) (hl : l.length ≤ 1048576) (ht : t.size ≤ maxLen) :
    Calls Try.prog 7 #[v, .agg #[.int .i64 k, .string t]] w (RetRowB 3 1 w.heap.size w (Pl.intoOut l k t).length (ints (Pl.intoOut l k t)) (Pl.intoOk l k t)) := by
  have HB := Lib.hid (Joins.below_alloc1 w (.cells #[.int .i64 k, .string t] 26))
  have HR := Lib.hid (hr.keep HB.out)
  have ca : (w.alloc (.cells #[.int .i64 k, .string t] 26)).cell? ⟨w.heap.size, 0, none⟩ = some (.int .i64 k) := by simp
  have cb : (w.alloc (.cells #[.int .i64 k, .string t] 26)).cell? ⟨w.heap.size, 1, none⟩ = some (.string t) := by simp
  have hr2 := Lib.hid hr
  clear hr
  cases h1 : Pl.outlineB l
  · have E := Lib.hid (into_bad (k := k) (t := t) (by rw [h1]; rfl))
    rw [E.out.1, E.out.2]
    clear E
    go_enter Try.func7, Try.ntmps7
    go_wp2_with (go_at_call 15; refine (l4Good_any _ l _ HR.out hl).mono ?_; rintro e w1 ⟨he, rfl⟩; rw [h1] at he; subst he)
    go_ret2
    exact ⟨_, rfl, World.ownsRow_nil _ _ _ _, HB.out⟩
  cases h2 : Pl.foldB k t
  · have E := Lib.hid (into_bad (l := l) (k := k) (t := t) (by rw [h1, h2]; rfl))
    rw [E.out.1, E.out.2]
    clear E
    go_enter Try.func7, Try.ntmps7
    go_wp2_with (first
      | (go_at_call 15; refine (l4Good_any _ l _ HR.out hl).mono ?_; rintro e w1 ⟨he, rfl⟩; rw [h1] at he; subst he)
      | (go_at_call 16; refine (l10Fold_any _ _ _ ht).mono ?_; rintro e w2 ⟨he, hb2⟩; rw [h2] at he; subst he))
    go_ret2
    exact ⟨_, rfl, World.ownsRow_nil _ _ _ _, HB.out.trans (hb2.mono HB.out.size)⟩
  have z1 := Pl.outline_len h1
  obtain ⟨n, hn, hn1, hn2⟩ := Pl.stroke_nat (Pl.outline_last h1)
  obtain ⟨j, rfl, hj1, hj2⟩ := Pl.fold_key h2
  have HR2 := hr2.out
  obtain ⟨a, cap, rfl, hcap, _, _, _, hcells⟩ := HR2
  obtain ⟨b, off, rfl, hlast0⟩ := last_cell hcells z1.1
  have hbl : b < w.heap.size := World.block_lt_of_cell? _ _ hlast0
  rw [hn] at hlast0
  have hlast := keepc HB.out hlast0
  have HC := Lib.hid (hcells.keep HB.out)
  have hw := wrap_powI hj2
  have hp := pow_bd hj2
  have hp1 := hp.1; have hp2 := hp.2
  clear hlast0 hcells hp hr2
  have hsh := and_bitI n j hn2 hj2
  cases hq : n.testBit j
  · have q1 : (bits .and .i64 (n : Int) (2 ^ j) == 0) = true := by rw [hsh, hq]; rfl
    have q2 := nT q1
    have E := Lib.hid (into_off h1 h2 (by rw [hn]; simpa [Pl.keyOn] using hq))
    have F := Lib.hid (show Pl.lastI l + 2 ^ ((j : Int)).toNat = (n : Int) + 2 ^ j by rw [hn]; rfl)
    rw [E.out.1, E.out.2, F.out, Pl.withLast_length _ _ z1.1]
    clear E F hsh
    have i4 : IntKind.i64.wrap ((n : Int) + 2 ^ j) = (n : Int) + 2 ^ j := wrapI (by omega) (by omega)
    obtain ⟨m, hm⟩ : ∃ m, l.length = m + 1 := ⟨l.length - 1, by omega⟩
    have hm1 : l.length - 1 = m := by omega
    rw [hm1] at hlast
    have HQ0 := HR.out
    rw [hm] at hcap HQ0 ⊢
    have HQ := Lib.hid HQ0
    clear HQ0 HR
    have i1 : (0 : Int) ≤ (m : Int) := by omega
    have i2 : (m : Int) < (m : Int) + 1 := by omega
    have i3 : IntKind.i64.wrap (m : Int) = (m : Int) := Pl.wrap_nat _ (by omega)
    have i5 : (m : Int) ≤ (cap : Int) := by omega
    have htk : (l.take m).length = m := by simp; omega
    go_enter Try.func7, Try.ntmps7
    go_wp2_with (first
      | (go_at_call 15; refine (l4Good_any _ l _ (by rw [hm]; exact HQ.out) hl).mono ?_; rintro e w1 ⟨he, rfl⟩; rw [h1] at he; subst he)
      | (go_at_call 16; refine (l10Fold_any _ _ _ ht).mono ?_; rintro e w2 ⟨he, hb2⟩; rw [h2] at he; subst he; have ca2 := keepc hb2 ca; have cb2 := keepc hb2 cb; have hlast2 := keepc hb2 hlast))
    have HC2 := Lib.hid (HC.out.keep hb2)
    have HB2 := Lib.hid (HB.out.trans (hb2.mono HB.out.size))
    have hbl2 : b < w2.heap.size := World.block_lt_of_cell? _ _ hlast2
    clear HC HQ HB hb2 ca cb hlast ca2 cb2
    go_region_held3 (fun w' => w'.cell? ⟨b, off + m, none⟩ = some (.int .i64 (n : Int))) (first | exact e2 | exact e1 | exact hlast2 | go_keep) (first
      | (have hx := hown1; refine step_app_int rfl (.tmp 35) (.tmp 43) rfl w2.heap.size _ m (ints (l.take m)) rfl (by first | exact hown1 | exact hown1.alloc _) ⟨_, 0, none⟩ 1 1 [(n : Int) + 2 ^ j] rfl rfl (by first | exact one_news _ _ | exact cell_news (e3 _ (cellW2 _ _ _) (fun h => absurd (show w2.heap.size + 1 = w2.heap.size from Option.some.inj h) (by omega))) | exact cell_news (e4 _ (cellW1 _ _ _) (fun h => absurd (show w2.heap.size = w2.heap.size + 1 from Option.some.inj h) (by omega)))) (by omega) (by have := hg1.size; simp at this ⊢; omega) ?_; intro v4 w4 hown2 hg2; have e2 : w4.cell? ⟨b, off + m, none⟩ = some (.int .i64 (n : Int)) := hg2.cell (by first | exact e1 | exact keepc (Joins.below_alloc1 _ _) e1) (fun h => absurd (hown1.lt b h.symm).1 (by omega)); have B4 := Lib.hid (grown2 hg2 (by first | exact B1.out | exact B1.out.alloc B1.out.size _) (fun k hk => (hown1.lt k hk).1)))
      | (refine step_app_int rfl (.tmp 30) (.tmp 34) rfl w2.heap.size _ 0 [] rfl (by first | exact madeW _ | exact (madeW _).alloc _ | exact madeW2 _ _) ⟨b, off, none⟩ m cap (l.take m) rfl htk (by exact news_at HC2.out m (by repeat (first | with_reducible exact Below.refl _ _ | with_reducible assumption | with_reducible refine Below.alloc ?_ ?_ _ | with_reducible refine Below.setCell ?_ ?_ _ | with_reducible refine Below.drew ?_ | with_reducible refine below_drewN ?_ _ | with_reducible refine Below.trans ?_ (Below.mono (by assumption) ?_) | omega | ((repeat (first | rw [World.size_alloc] | rw [size_setCell] | rw [size_drewN] | rw [size_drew])); omega) | exact Nat.le_refl _ | (dsimp only; omega) | (simp [World.setCell]; omega)))) (by omega) (by first | (simp; done) | (simp; omega)) ?_; intro v3 w3 hown1 hg1; rw [Nat.zero_add, List.nil_append] at hown1; have e1 : w3.cell? ⟨b, off + m, none⟩ = some (.int .i64 (n : Int)) := hg1.cell (keepc (by repeat (first | with_reducible exact Below.refl _ _ | with_reducible assumption | with_reducible refine Below.alloc ?_ ?_ _ | with_reducible refine Below.setCell ?_ ?_ _ | with_reducible refine Below.drew ?_ | with_reducible refine below_drewN ?_ _ | with_reducible refine Below.trans ?_ (Below.mono (by assumption) ?_) | omega | ((repeat (first | rw [World.size_alloc] | rw [size_setCell] | rw [size_drewN] | rw [size_drew])); omega) | exact Nat.le_refl _ | (dsimp only; omega) | (simp [World.setCell]; omega))) hlast2) (fun h => by first | exact absurd (show b = w2.heap.size from Option.some.inj h) (by omega) | exact absurd (show b = w2.heap.size + 1 from Option.some.inj h) (by omega)); have e3 := fun (u : Value) h => hg1.cell (a := ⟨w2.heap.size + 1, 0, none⟩) (v := u) h; have e4 := fun (u : Value) h => hg1.cell (a := ⟨w2.heap.size, 0, none⟩) (v := u) h; have B1 := Lib.hid (grown2 (w := w2) hg1 (by repeat (first | with_reducible exact Below.refl _ _ | with_reducible assumption | with_reducible refine Below.alloc ?_ ?_ _ | with_reducible refine Below.setCell ?_ ?_ _ | with_reducible refine Below.drew ?_ | with_reducible refine below_drewN ?_ _ | with_reducible refine Below.trans ?_ (Below.mono (by assumption) ?_) | omega | ((repeat (first | rw [World.size_alloc] | rw [size_setCell] | rw [size_drewN] | rw [size_drew])); omega) | exact Nat.le_refl _ | (dsimp only; omega) | (simp [World.setCell]; omega))) (fun k hk => by have h9 := Option.some.inj hk; subst h9; first | exact Nat.le_refl _ | exact Nat.le_succ _))))
    all_goals go_wp2_with fail
    all_goals go_ret2
    all_goals
      refine ⟨_, rfl, ?_, HB2.out.trans (B4.out.mono HB2.out.size)⟩
      have h := own_base hown2 HB2.out.size
      rw [← ints_snoc] at h
      unfold Pl.withLast
      rw [hm1]
      exact h
  · have q1 : (bits .and .i64 (n : Int) (2 ^ j) == 0) = false := by rw [hsh, hq]; rfl
    have q2 := nF q1
    have E := Lib.hid (into_on (l := l) (k := (j : Int)) (t := t) (by rw [hn]; simpa [Pl.keyOn] using hq))
    rw [E.out.1, E.out.2]
    clear E hsh
    go_enter Try.func7, Try.ntmps7
    go_wp2_with (first
      | (go_at_call 15; refine (l4Good_any _ l _ HR.out hl).mono ?_; rintro e w1 ⟨he, rfl⟩; rw [h1] at he; subst he)
      | (go_at_call 16; refine (l10Fold_any _ _ _ ht).mono ?_; rintro e w2 ⟨he, hb2⟩; rw [h2] at he; subst he; have ca2 := keepc hb2 ca; have cb2 := keepc hb2 cb; have hlast2 := keepc hb2 hlast))
    all_goals go_ret2
    all_goals exact ⟨_, rfl, World.ownsRow_nil _ _ _ _, HB.out.trans (hb2.mono HB.out.size)⟩

end Go.Proofs.Ytibchndfndgdeaa

namespace Go.Proofs.Ytibchndfndgdeaa
open Go.RowKit

theorem Rows.drew1 {w : World} {v : Value} {n size : Nat} {xs : List Value} (h : Rows w v n size xs) : Rows w.drew v n size xs := h
theorem CellsAt.drew1 {w : World} {a : Option Addr} {xs : List Value} (h : CellsAt w a xs) : CellsAt w.drew a xs := h
theorem keep_cell {w w' : World} (hb : Below w.heap.size w w') {b o : Nat} {u : Value} (h : w.cell? ⟨b, o, none⟩ = some u) : w'.cell? ⟨b, o, none⟩ = some u := keepc hb h
theorem keep_cell1 {w w' : World} (hb : Below w.drew.heap.size w.drew w') {b o : Nat} {u : Value} (h : w.cell? ⟨b, o, none⟩ = some u) : w'.cell? ⟨b, o, none⟩ = some u := keepc hb h

set_option maxRecDepth 20000 in
set_option maxHeartbeats 3200000 in
theorem FoldInto_any (v : Value) (l : List Int) (k : Int) (t : ByteArray) (w : World) (hr : Rows w v l.length 1 (ints l)) (hl : l.length ≤ 1048576) (ht : t.size ≤ maxLen) :
    Calls Try.prog 6 #[v, .agg #[.int .i64 k, .string t]] w (RetRowB 3 1 w.heap.size w (Pl.intoOut l k t).length (ints (Pl.intoOut l k t)) (Pl.intoOk l k t)) := by
  have HB := Lib.hid (Joins.below_alloc1 w (.cells #[.int .i64 k, .string t] 26))
  have HR := Lib.hid (hr.keep HB.out)
  have ca : (w.alloc (.cells #[.int .i64 k, .string t] 26)).cell? ⟨w.heap.size, 0, none⟩ = some (.int .i64 k) := by simp
  have cb : (w.alloc (.cells #[.int .i64 k, .string t] 26)).cell? ⟨w.heap.size, 1, none⟩ = some (.string t) := by simp
  clear hr
  cases h1 : Pl.outlineB l
  · have E := Lib.hid (into_bad (k := k) (t := t) (by rw [h1]; rfl))
    rw [E.out.1, E.out.2]
    clear E
    go_enter Try.func6, Try.ntmps6
    go_upto_region 1 with fail
    refine wp_region_held_drew (S := fun _ => True) (by kernel_rfl) trivial (fun hHeld => ?_)
    refine wpAnyH_take (i := 0) (oi := _) (v := v) rfl (by kernel_rfl) (by kernel_rfl) (by kernel_rfl) (fun _ _ _ h => h) (Or.inl ⟨rfl, fun w _ => by first | rfl | go_simp⟩) hHeld ?_
    (try simp only [Act.put, List.getElem_toArray, List.getElem_cons_zero, List.setIfInBounds_toArray, List.set_cons_zero, List.set_cons_succ])
    refine wpAnyH_ready (rs := [1]) (by kernel_rfl) (by simp) ?_
    refine AllReadyH.cons (o := _) rfl (fun K hK => ?_) AllReadyH.nil
    go_simp
    (go_at_call 12; refine (IsValidOutline_any _ l _ HR.out.drew1 hl).mono ?_; rintro e w1 ⟨he, hb1⟩; rw [h1] at he; subst he)
    go_wp2_with fail
    refine hK.out _ _ trivial (fun hHeld2 => ?_)
    clear hK K hHeld
    have hHeld := hHeld2
    clear hHeld2
    (try simp only [Act.put, List.getElem_toArray, List.getElem_cons_zero, List.getElem_cons_succ, List.setIfInBounds_toArray, List.set_cons_zero, List.set_cons_succ])
    refine wpAnyH_take (i := 2) (oi := _) (v := (.bool true)) rfl (by kernel_rfl) (by kernel_rfl) (by kernel_rfl) (fun _ _ _ h => h) (Or.inl ⟨rfl, fun w _ => by first | rfl | go_simp⟩) hHeld ?_
    (try simp only [Act.put, List.getElem_toArray, List.getElem_cons_zero, List.getElem_cons_succ, List.setIfInBounds_toArray, List.set_cons_zero, List.set_cons_succ])
    refine wpAnyH_take (i := 3) (oi := _) (v := (.bool true)) rfl (by kernel_rfl) (by kernel_rfl) (by kernel_rfl) (fun _ _ _ h => h) (Or.inl ⟨rfl, fun w _ => by first | rfl | go_simp⟩) hHeld ?_
    (try simp only [Act.put, List.getElem_toArray, List.getElem_cons_zero, List.getElem_cons_succ, List.setIfInBounds_toArray, List.set_cons_zero, List.set_cons_succ])
    refine wpAnyH_take (i := 4) (oi := _) (v := undef) rfl (by kernel_rfl) (by kernel_rfl) (by kernel_rfl) (fun _ _ _ h => h) (Or.inr ⟨rfl, rfl⟩) hHeld ?_
    (try simp only [Act.put, List.getElem_toArray, List.getElem_cons_zero, List.getElem_cons_succ, List.setIfInBounds_toArray, List.set_cons_zero, List.set_cons_succ])
    refine wpAnyH_take (i := 5) (oi := _) (v := undef) rfl (by kernel_rfl) (by kernel_rfl) (by kernel_rfl) (fun _ _ _ h => h) (Or.inr ⟨rfl, rfl⟩) hHeld ?_
    (try simp only [Act.put, List.getElem_toArray, List.getElem_cons_zero, List.getElem_cons_succ, List.setIfInBounds_toArray, List.set_cons_zero, List.set_cons_succ])
    refine wpAnyH_take (i := 6) (oi := _) (v := undef) rfl (by kernel_rfl) (by kernel_rfl) (by kernel_rfl) (fun _ _ _ h => h) (Or.inr ⟨rfl, rfl⟩) hHeld ?_
    (try simp only [Act.put, List.getElem_toArray, List.getElem_cons_zero, List.getElem_cons_succ, List.setIfInBounds_toArray, List.set_cons_zero, List.set_cons_succ])
    refine wpAnyH_take (i := 7) (oi := _) (v := (.bool true)) rfl (by kernel_rfl) (by kernel_rfl) (by kernel_rfl) (fun _ _ _ h => h) (Or.inl ⟨rfl, fun w _ => by first | rfl | go_simp⟩) hHeld ?_
    (try simp only [Act.put, List.getElem_toArray, List.getElem_cons_zero, List.getElem_cons_succ, List.setIfInBounds_toArray, List.set_cons_zero, List.set_cons_succ])
    refine wpAnyH_take (i := 8) (oi := _) (v := (.bool true)) rfl (by kernel_rfl) (by kernel_rfl) (by kernel_rfl) (fun _ _ _ h => h) (Or.inl ⟨rfl, fun w _ => by first | rfl | go_simp⟩) hHeld ?_
    (try simp only [Act.put, List.getElem_toArray, List.getElem_cons_zero, List.getElem_cons_succ, List.setIfInBounds_toArray, List.set_cons_zero, List.set_cons_succ])
    refine wpAnyH_take (i := 9) (oi := _) (v := undef) rfl (by kernel_rfl) (by kernel_rfl) (by kernel_rfl) (fun _ _ _ h => h) (Or.inr ⟨rfl, rfl⟩) hHeld ?_
    (try simp only [Act.put, List.getElem_toArray, List.getElem_cons_zero, List.getElem_cons_succ, List.setIfInBounds_toArray, List.set_cons_zero, List.set_cons_succ])
    refine wpAnyH_take (i := 10) (oi := _) (v := undef) rfl (by kernel_rfl) (by kernel_rfl) (by kernel_rfl) (fun _ _ _ h => h) (Or.inr ⟨rfl, rfl⟩) hHeld ?_
    (try simp only [Act.put, List.getElem_toArray, List.getElem_cons_zero, List.getElem_cons_succ, List.setIfInBounds_toArray, List.set_cons_zero, List.set_cons_succ])
    refine wpAnyH_take (i := 11) (oi := _) (v := undef) rfl (by kernel_rfl) (by kernel_rfl) (by kernel_rfl) (fun _ _ _ h => h) (Or.inr ⟨rfl, rfl⟩) hHeld ?_
    (try simp only [Act.put, List.getElem_toArray, List.getElem_cons_zero, List.getElem_cons_succ, List.setIfInBounds_toArray, List.set_cons_zero, List.set_cons_succ])
    refine wpAnyH_take (i := 12) (oi := _) (v := undef) rfl (by kernel_rfl) (by kernel_rfl) (by kernel_rfl) (fun _ _ _ h => h) (Or.inr ⟨rfl, rfl⟩) hHeld ?_
    (try simp only [Act.put, List.getElem_toArray, List.getElem_cons_zero, List.getElem_cons_succ, List.setIfInBounds_toArray, List.set_cons_zero, List.set_cons_succ])
    refine wpAnyH_take (i := 13) (oi := _) (v := undef) rfl (by kernel_rfl) (by kernel_rfl) (by kernel_rfl) (fun _ _ _ h => h) (Or.inr ⟨rfl, rfl⟩) hHeld ?_
    (try simp only [Act.put, List.getElem_toArray, List.getElem_cons_zero, List.getElem_cons_succ, List.setIfInBounds_toArray, List.set_cons_zero, List.set_cons_succ])
    refine wpAnyH_take (i := 14) (oi := _) (v := undef) rfl (by kernel_rfl) (by kernel_rfl) (by kernel_rfl) (fun _ _ _ h => h) (Or.inr ⟨rfl, rfl⟩) hHeld ?_
    (try simp only [Act.put, List.getElem_toArray, List.getElem_cons_zero, List.getElem_cons_succ, List.setIfInBounds_toArray, List.set_cons_zero, List.set_cons_succ])
    refine wpAnyH_take (i := 15) (oi := _) (v := undef) rfl (by kernel_rfl) (by kernel_rfl) (by kernel_rfl) (fun _ _ _ h => h) (Or.inr ⟨rfl, rfl⟩) hHeld ?_
    (try simp only [Act.put, List.getElem_toArray, List.getElem_cons_zero, List.getElem_cons_succ, List.setIfInBounds_toArray, List.set_cons_zero, List.set_cons_succ])
    refine wpAnyH_take (i := 16) (oi := _) (v := undef) rfl (by kernel_rfl) (by kernel_rfl) (by kernel_rfl) (fun _ _ _ h => h) (Or.inr ⟨rfl, rfl⟩) hHeld ?_
    (try simp only [Act.put, List.getElem_toArray, List.getElem_cons_zero, List.getElem_cons_succ, List.setIfInBounds_toArray, List.set_cons_zero, List.set_cons_succ])
    refine wpAnyH_take (i := 17) (oi := _) (v := undef) rfl (by kernel_rfl) (by kernel_rfl) (by kernel_rfl) (fun _ _ _ h => h) (Or.inr ⟨rfl, rfl⟩) hHeld ?_
    (try simp only [Act.put, List.getElem_toArray, List.getElem_cons_zero, List.getElem_cons_succ, List.setIfInBounds_toArray, List.set_cons_zero, List.set_cons_succ])
    refine wpAnyH_take (i := 18) (oi := _) (v := undef) rfl (by kernel_rfl) (by kernel_rfl) (by kernel_rfl) (fun _ _ _ h => h) (Or.inr ⟨rfl, rfl⟩) hHeld ?_
    (try simp only [Act.put, List.getElem_toArray, List.getElem_cons_zero, List.getElem_cons_succ, List.setIfInBounds_toArray, List.set_cons_zero, List.set_cons_succ])
    refine wpAnyH_take (i := 19) (oi := _) (v := undef) rfl (by kernel_rfl) (by kernel_rfl) (by kernel_rfl) (fun _ _ _ h => h) (Or.inr ⟨rfl, rfl⟩) hHeld ?_
    (try simp only [Act.put, List.getElem_toArray, List.getElem_cons_zero, List.getElem_cons_succ, List.setIfInBounds_toArray, List.set_cons_zero, List.set_cons_succ])
    refine wpAnyH_take (i := 20) (oi := _) (v := (.bool true)) rfl (by kernel_rfl) (by kernel_rfl) (by kernel_rfl) (fun _ _ _ h => h) (Or.inl ⟨rfl, fun w _ => by first | rfl | go_simp⟩) hHeld ?_
    (try simp only [Act.put, List.getElem_toArray, List.getElem_cons_zero, List.getElem_cons_succ, List.setIfInBounds_toArray, List.set_cons_zero, List.set_cons_succ])
    refine wpAnyH_done (by kernel_rfl) ?_ _
    go_wp2_with fail
    go_ret2
    exact ⟨_, rfl, World.ownsRow_nil _ _ _ _, (below_drew1 HB.out).trans (hb1.mono HB.out.size)⟩
  · cases h2 : Pl.foldB k t
    · have E := Lib.hid (into_bad (l := l) (k := k) (t := t) (by rw [h1, h2]; rfl))
      rw [E.out.1, E.out.2]
      clear E
      go_enter Try.func6, Try.ntmps6
      go_upto_region 1 with fail
      refine wp_region_held_drew (S := fun w' => w'.cell? ⟨w.heap.size, 0, none⟩ = some (.int .i64 k) ∧ w'.cell? ⟨w.heap.size, 1, none⟩ = some (.string t)) (by kernel_rfl) ⟨ca, cb⟩ (fun hHeld => ?_)
      refine wpAnyH_take (i := 0) (oi := _) (v := v) rfl (by kernel_rfl) (by kernel_rfl) (by kernel_rfl) (fun _ _ _ h => h) (Or.inl ⟨rfl, fun w _ => by first | rfl | go_simp⟩) hHeld ?_
      (try simp only [Act.put, List.getElem_toArray, List.getElem_cons_zero, List.setIfInBounds_toArray, List.set_cons_zero, List.set_cons_succ])
      refine wpAnyH_ready (rs := [1]) (by kernel_rfl) (by simp) ?_
      refine AllReadyH.cons (o := _) rfl (fun K hK => ?_) AllReadyH.nil
      go_simp
      (go_at_call 12; refine (IsValidOutline_any _ l _ HR.out.drew1 hl).mono ?_; rintro e w1 ⟨he, hb1⟩; rw [h1] at he; subst he; have ca1 := keep_cell1 hb1 ca; have cb1 := keep_cell1 hb1 cb)
      go_wp2_with fail
      refine hK.out _ _ ⟨ca1, cb1⟩ (fun hHeld2 => ?_)
      clear hK K hHeld
      have hHeld := hHeld2
      clear hHeld2
      (try simp only [Act.put, List.getElem_toArray, List.getElem_cons_zero, List.getElem_cons_succ, List.setIfInBounds_toArray, List.set_cons_zero, List.set_cons_succ])
      refine wpAnyH_take (i := 2) (oi := _) (v := (.bool false)) rfl (by kernel_rfl) (by kernel_rfl) (by kernel_rfl) (fun _ _ _ h => h) (Or.inl ⟨rfl, fun w _ => by first | rfl | go_simp⟩) hHeld ?_
      (try simp only [Act.put, List.getElem_toArray, List.getElem_cons_zero, List.getElem_cons_succ, List.setIfInBounds_toArray, List.set_cons_zero, List.set_cons_succ])
      refine wpAnyH_take (i := 3) (oi := _) (v := (.bool false)) rfl (by kernel_rfl) (by kernel_rfl) (by kernel_rfl) (fun _ _ _ h => h) (Or.inl ⟨rfl, fun w _ => by first | rfl | go_simp⟩) hHeld ?_
      (try simp only [Act.put, List.getElem_toArray, List.getElem_cons_zero, List.getElem_cons_succ, List.setIfInBounds_toArray, List.set_cons_zero, List.set_cons_succ])
      refine wpAnyH_take (i := 4) (oi := _) (v := (.agg #[.int .i64 k, .string t])) rfl (by kernel_rfl) (by kernel_rfl) (by kernel_rfl) (fun _ _ _ h => h) (Or.inl ⟨rfl, fun w' hw => by obtain ⟨hw1, hw2⟩ := hw; go_simp⟩) hHeld ?_
      (try simp only [Act.put, List.getElem_toArray, List.getElem_cons_zero, List.getElem_cons_succ, List.setIfInBounds_toArray, List.set_cons_zero, List.set_cons_succ])
      refine wpAnyH_ready (rs := [5]) (by kernel_rfl) (by simp) ?_
      refine AllReadyH.cons (o := _) rfl (fun K hK => ?_) AllReadyH.nil
      go_simp
      (go_at_call 13; refine (isFold_any _ _ _ ht).mono ?_; rintro e w2 ⟨he, hb2⟩; rw [h2] at he; subst he; have ca2 := keep_cell hb2 ca1; have cb2 := keep_cell hb2 cb1)
      go_wp2_with fail
      refine hK.out _ _ ⟨ca2, cb2⟩ (fun hHeld2 => ?_)
      clear hK K hHeld
      have hHeld := hHeld2
      clear hHeld2
      (try simp only [Act.put, List.getElem_toArray, List.getElem_cons_zero, List.getElem_cons_succ, List.setIfInBounds_toArray, List.set_cons_zero, List.set_cons_succ])
      refine wpAnyH_take (i := 6) (oi := _) (v := (.bool true)) rfl (by kernel_rfl) (by kernel_rfl) (by kernel_rfl) (fun _ _ _ h => h) (Or.inl ⟨rfl, fun w _ => by first | rfl | go_simp⟩) hHeld ?_
      (try simp only [Act.put, List.getElem_toArray, List.getElem_cons_zero, List.getElem_cons_succ, List.setIfInBounds_toArray, List.set_cons_zero, List.set_cons_succ])
      refine wpAnyH_take (i := 7) (oi := _) (v := (.bool true)) rfl (by kernel_rfl) (by kernel_rfl) (by kernel_rfl) (fun _ _ _ h => h) (Or.inl ⟨rfl, fun w _ => by first | rfl | go_simp⟩) hHeld ?_
      (try simp only [Act.put, List.getElem_toArray, List.getElem_cons_zero, List.getElem_cons_succ, List.setIfInBounds_toArray, List.set_cons_zero, List.set_cons_succ])
      refine wpAnyH_take (i := 8) (oi := _) (v := (.bool true)) rfl (by kernel_rfl) (by kernel_rfl) (by kernel_rfl) (fun _ _ _ h => h) (Or.inl ⟨rfl, fun w _ => by first | rfl | go_simp⟩) hHeld ?_
      (try simp only [Act.put, List.getElem_toArray, List.getElem_cons_zero, List.getElem_cons_succ, List.setIfInBounds_toArray, List.set_cons_zero, List.set_cons_succ])
      refine wpAnyH_take (i := 9) (oi := _) (v := undef) rfl (by kernel_rfl) (by kernel_rfl) (by kernel_rfl) (fun _ _ _ h => h) (Or.inr ⟨rfl, rfl⟩) hHeld ?_
      (try simp only [Act.put, List.getElem_toArray, List.getElem_cons_zero, List.getElem_cons_succ, List.setIfInBounds_toArray, List.set_cons_zero, List.set_cons_succ])
      refine wpAnyH_take (i := 10) (oi := _) (v := undef) rfl (by kernel_rfl) (by kernel_rfl) (by kernel_rfl) (fun _ _ _ h => h) (Or.inr ⟨rfl, rfl⟩) hHeld ?_
      (try simp only [Act.put, List.getElem_toArray, List.getElem_cons_zero, List.getElem_cons_succ, List.setIfInBounds_toArray, List.set_cons_zero, List.set_cons_succ])
      refine wpAnyH_take (i := 11) (oi := _) (v := undef) rfl (by kernel_rfl) (by kernel_rfl) (by kernel_rfl) (fun _ _ _ h => h) (Or.inr ⟨rfl, rfl⟩) hHeld ?_
      (try simp only [Act.put, List.getElem_toArray, List.getElem_cons_zero, List.getElem_cons_succ, List.setIfInBounds_toArray, List.set_cons_zero, List.set_cons_succ])
      refine wpAnyH_take (i := 12) (oi := _) (v := undef) rfl (by kernel_rfl) (by kernel_rfl) (by kernel_rfl) (fun _ _ _ h => h) (Or.inr ⟨rfl, rfl⟩) hHeld ?_
      (try simp only [Act.put, List.getElem_toArray, List.getElem_cons_zero, List.getElem_cons_succ, List.setIfInBounds_toArray, List.set_cons_zero, List.set_cons_succ])
      refine wpAnyH_take (i := 13) (oi := _) (v := undef) rfl (by kernel_rfl) (by kernel_rfl) (by kernel_rfl) (fun _ _ _ h => h) (Or.inr ⟨rfl, rfl⟩) hHeld ?_
      (try simp only [Act.put, List.getElem_toArray, List.getElem_cons_zero, List.getElem_cons_succ, List.setIfInBounds_toArray, List.set_cons_zero, List.set_cons_succ])
      refine wpAnyH_take (i := 14) (oi := _) (v := undef) rfl (by kernel_rfl) (by kernel_rfl) (by kernel_rfl) (fun _ _ _ h => h) (Or.inr ⟨rfl, rfl⟩) hHeld ?_
      (try simp only [Act.put, List.getElem_toArray, List.getElem_cons_zero, List.getElem_cons_succ, List.setIfInBounds_toArray, List.set_cons_zero, List.set_cons_succ])
      refine wpAnyH_take (i := 15) (oi := _) (v := undef) rfl (by kernel_rfl) (by kernel_rfl) (by kernel_rfl) (fun _ _ _ h => h) (Or.inr ⟨rfl, rfl⟩) hHeld ?_
      (try simp only [Act.put, List.getElem_toArray, List.getElem_cons_zero, List.getElem_cons_succ, List.setIfInBounds_toArray, List.set_cons_zero, List.set_cons_succ])
      refine wpAnyH_take (i := 16) (oi := _) (v := undef) rfl (by kernel_rfl) (by kernel_rfl) (by kernel_rfl) (fun _ _ _ h => h) (Or.inr ⟨rfl, rfl⟩) hHeld ?_
      (try simp only [Act.put, List.getElem_toArray, List.getElem_cons_zero, List.getElem_cons_succ, List.setIfInBounds_toArray, List.set_cons_zero, List.set_cons_succ])
      refine wpAnyH_take (i := 17) (oi := _) (v := undef) rfl (by kernel_rfl) (by kernel_rfl) (by kernel_rfl) (fun _ _ _ h => h) (Or.inr ⟨rfl, rfl⟩) hHeld ?_
      (try simp only [Act.put, List.getElem_toArray, List.getElem_cons_zero, List.getElem_cons_succ, List.setIfInBounds_toArray, List.set_cons_zero, List.set_cons_succ])
      refine wpAnyH_take (i := 18) (oi := _) (v := undef) rfl (by kernel_rfl) (by kernel_rfl) (by kernel_rfl) (fun _ _ _ h => h) (Or.inr ⟨rfl, rfl⟩) hHeld ?_
      (try simp only [Act.put, List.getElem_toArray, List.getElem_cons_zero, List.getElem_cons_succ, List.setIfInBounds_toArray, List.set_cons_zero, List.set_cons_succ])
      refine wpAnyH_take (i := 19) (oi := _) (v := undef) rfl (by kernel_rfl) (by kernel_rfl) (by kernel_rfl) (fun _ _ _ h => h) (Or.inr ⟨rfl, rfl⟩) hHeld ?_
      (try simp only [Act.put, List.getElem_toArray, List.getElem_cons_zero, List.getElem_cons_succ, List.setIfInBounds_toArray, List.set_cons_zero, List.set_cons_succ])
      refine wpAnyH_take (i := 20) (oi := _) (v := (.bool true)) rfl (by kernel_rfl) (by kernel_rfl) (by kernel_rfl) (fun _ _ _ h => h) (Or.inl ⟨rfl, fun w _ => by first | rfl | go_simp⟩) hHeld ?_
      (try simp only [Act.put, List.getElem_toArray, List.getElem_cons_zero, List.getElem_cons_succ, List.setIfInBounds_toArray, List.set_cons_zero, List.set_cons_succ])
      refine wpAnyH_done (by kernel_rfl) ?_ _
      go_wp2_with fail
      go_ret2
      exact ⟨_, rfl, World.ownsRow_nil _ _ _ _, ((below_drew1 HB.out).trans (hb1.mono HB.out.size)).trans (hb2.mono (Nat.le_trans HB.out.size hb1.size))⟩
    · have z1 := Pl.outline_len h1
      obtain ⟨n, hn, hn1, hn2⟩ := Pl.stroke_nat (Pl.outline_last h1)
      obtain ⟨j, rfl, hj1, hj2⟩ := Pl.fold_key h2
      have HR2 := HR.out
      obtain ⟨a, cap, rfl, hcap, _, _, _, hcells⟩ := HR2
      obtain ⟨b, off, rfl, hlast⟩ := last_cell hcells z1.1
      rw [hn] at hlast
      have HC := Lib.hid hcells
      have HR3 := HR.out
      obtain ⟨m, hm⟩ : ∃ m, l.length = m + 1 := ⟨l.length - 1, by omega⟩
      have hm1 : l.length - 1 = m := by omega
      rw [hm1] at hlast
      rw [hm] at HR3 hcap ⊢
      have HQ := Lib.hid HR3
      clear hcells HR HR3
      have i1 : (0 : Int) ≤ (m : Int) := by omega
      have i2 : (m : Int) < (m : Int) + 1 := by omega
      have i4 : IntKind.i64.wrap (m : Int) = (m : Int) := Pl.wrap_nat _ (by omega)
      cases hq : n.testBit j
      · have q1 : (bits .and .i64 ((n : Int) / 2 ^ j) 1 == 1) = false := by rw [Pl.shr_key n j hn2, hq]; rfl
        have E := Lib.hid (into_off h1 h2 (by rw [hn]; simpa [Pl.keyOn] using hq))
        have F := Lib.hid (show Pl.lastI l + 2 ^ ((j : Int)).toNat = (n : Int) + 2 ^ j by rw [hn]; rfl)
        rw [E.out.1, E.out.2, F.out, Pl.withLast_length _ _ z1.1, hm]
        clear E F
        have hw := wrap_powI hj2
        have hwI : IntKind.i64.wrap ((2 : Int) ^ j) = (2 : Int) ^ j := wrapI (by have := pow_bd hj2; omega) (by have := pow_bd hj2; omega)
        have hor : bits .or .i64 (n : Int) (2 ^ j) = (n : Int) + 2 ^ j := by
          have h := Pl.or_bit n j hn2 hj2 hq
          simpa using h
        go_enter Try.func6, Try.ntmps6
        go_upto_region 1 with fail
        go_region_held3 (fun w' => w'.cell? ⟨w.heap.size, 0, none⟩ = some (.int .i64 (j : Int)) ∧ w'.cell? ⟨w.heap.size, 1, none⟩ = some (.string t) ∧ w'.cell? ⟨b, off + m, none⟩ = some (.int .i64 (n : Int))) (first | exact ⟨ca2, cb2, hlast2⟩ | exact ⟨ca1, cb1, hlast1⟩ | exact ⟨ca, cb, hlast⟩) (first
          | (go_at_call 12; refine (IsValidOutline_any _ l _ (by rw [hm]; exact HQ.out.drew1) hl).mono ?_; rintro e w1 ⟨he, hb1⟩; rw [h1] at he; subst he; have ca1 := keep_cell1 hb1 ca; have cb1 := keep_cell1 hb1 cb; have hlast1 := keep_cell1 hb1 hlast)
          | (go_at_call 13; refine (isFold_any _ _ _ ht).mono ?_; rintro e w2 ⟨he, hb2⟩; rw [h2] at he; subst he; have ca2 := keep_cell hb2 ca1; have cb2 := keep_cell hb2 cb1; have hlast2 := keep_cell hb2 hlast1))
        have HC2 := Lib.hid (((HC.out.drew1.keep hb1).keep hb2))
        have HB2 := Lib.hid (((below_drew1 HB.out).trans (hb1.mono HB.out.size)).trans (hb2.mono (Nat.le_trans HB.out.size hb1.size)))
        have HW : Hid (∀ (x : Int) (W : World), CellsAt W (some ⟨b, off, none⟩) (ints l) → Calls Try.prog 14 #[.slice (some ⟨b, off, none⟩) (m + 1) cap, .int .i64 x] W (RetRow 3 1 W.heap.size W (m + 1) (ints (Pl.withLast l x)))) := Lib.hid (fun x W hc => by have h := withLast_any b off cap l x W hc (by omega) (by omega) (by omega); rwa [hm] at h)
        clear HQ HC HB hb1 hb2 ca1 cb1 hlast1 ca cb hlast
        go_upto_region 3 with fail
        go_region_held3 (fun w' => w'.cell? ⟨w.heap.size, 0, none⟩ = some (.int .i64 (j : Int)) ∧ w'.cell? ⟨w.heap.size, 1, none⟩ = some (.string t) ∧ w'.cell? ⟨b, off + m, none⟩ = some (.int .i64 (n : Int))) (first | exact ⟨ca3, cb3, hlast3⟩ | exact ⟨ca2, cb2, hlast2⟩) (first
          | (go_at_call 14; refine (HW.out _ _ HC2.out.drew1).mono ?_; rintro e w3 ⟨v3, rfl, hown3, hb3⟩; have ca3 := keep_cell1 hb3 ca2; have cb3 := keep_cell1 hb3 cb2; have hlast3 := keep_cell1 hb3 hlast2))
        go_wp2
        go_ret2
        refine ⟨_, rfl, ?_, (below_drew1 HB2.out).trans (hb3.mono HB2.out.size)⟩
        have h := own_base hown3 HB2.out.size
        first | rw [hwI, hor] at h | rw [hor] at h | skip
        exact h
      · have q1 : (bits .and .i64 ((n : Int) / 2 ^ j) 1 == 1) = true := by rw [Pl.shr_key n j hn2, hq]; rfl
        have E := Lib.hid (into_on (l := l) (k := (j : Int)) (t := t) (by rw [hn]; simpa [Pl.keyOn] using hq))
        rw [E.out.1, E.out.2]
        clear E
        go_enter Try.func6, Try.ntmps6
        go_upto_region 1 with fail
        go_region_held3 (fun w' => w'.cell? ⟨w.heap.size, 0, none⟩ = some (.int .i64 (j : Int)) ∧ w'.cell? ⟨w.heap.size, 1, none⟩ = some (.string t) ∧ w'.cell? ⟨b, off + m, none⟩ = some (.int .i64 (n : Int))) (first | exact ⟨ca2, cb2, hlast2⟩ | exact ⟨ca1, cb1, hlast1⟩ | exact ⟨ca, cb, hlast⟩) (first
          | (go_at_call 12; refine (IsValidOutline_any _ l _ (by rw [hm]; exact HQ.out.drew1) hl).mono ?_; rintro e w1 ⟨he, hb1⟩; rw [h1] at he; subst he; have ca1 := keep_cell1 hb1 ca; have cb1 := keep_cell1 hb1 cb; have hlast1 := keep_cell1 hb1 hlast)
          | (go_at_call 13; refine (isFold_any _ _ _ ht).mono ?_; rintro e w2 ⟨he, hb2⟩; rw [h2] at he; subst he; have ca2 := keep_cell hb2 ca1; have cb2 := keep_cell hb2 cb1; have hlast2 := keep_cell hb2 hlast1))
        go_wp2
        go_ret2
        exact ⟨_, rfl, World.ownsRow_nil _ _ _ _, ((below_drew1 HB.out).trans (hb1.mono HB.out.size)).trans (hb2.mono (Nat.le_trans HB.out.size hb1.size))⟩

end Go.Proofs.Ytibchndfndgdeaa
