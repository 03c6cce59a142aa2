/-
  CONTRACTS: the cursor of the reference's draws: next, pick, one, of, among. What is drawn is told by bounds alone.
  CONTRACTS: the draws of words: plainWord, ending, anyWord, DrawIsWord, DrawVowelGroups, DrawSuffixRule. What is drawn is told by a bound on its size.
  CONTRACTS: the draws of screens and edits: screen, anyScreen, edit, DrawLeastEdit, DrawApplyEdit, DrawComposeEdits, DrawInvertEdit. What is drawn is told by bounds alone.
  CONTRACTS: DrawLeastEdit, DrawApplyEdit, DrawInvertEdit, DrawComposeEdits: what is drawn is told by bounds alone.
  CONTRACTS: the draws of atoms, of lists of atoms: wordText, atom, anyAtom, sequence.
  CONTRACTS: the methods of a state that lies in a block of memory: put, glue, end, apply.
  CONTRACT: the method apply of a state at the atom that turns the last word's first letter.
  CONTRACT: the method apply of a state that lies in a block of memory.
  CONTRACT: l12Apply of the reference at a suffix and at the atom that turns the last word's first letter.
  CONTRACTS: l12Put and l12Apply of the reference.
  CONTRACTS: ApplyAtom of the program and of the reference.
  CONTRACTS: what the laws over states and atoms have in common: the size of a state, the arguments as they lie.
  CONTRACTS: the draws of atoms that may be invalid and of lists of atoms: anyAtom, sequence.
  CONTRACTS: the draws of strokes and outlines: few, stroke, anyStroke, outline, anyOutline. Of what is drawn only the length is told.
  CONTRACTS: the draws of translations: atoms, translation. Of a translation only the size is told.
-/
import Derived.Test.YtibchndfndgdeaaSpell
import Derived.Test.YtibchndfndgdeaaStrA
import Derived.Deep.QuietTactic
import Derived.BigQuiet
import Derived.IntWalk
import Derived.Deep.RegionHeld3
import Derived.Test.YtibchndfndgdeaaAtomS
import Derived.Test.YtibchndfndgdeaaPlainAtoms
import Derived.Test.YtibchndfndgdeaaBasY
import Derived.BigRegion
import Derived.Deep.RegionLaw
import Derived.Deep.DeepCutAuto
import Derived.Deep.CutBlock
import Derived.Outline
import Derived.Laws.AppendOwn
namespace Go.Proofs.Ytibchndfndgdeaa
open Go.RowKit

/-- the cells of a row of bytes -/
def u8s (l : List Int) : List Value := l.map (Value.int .u8)
theorem u8s_at (l : List Int) (k : Nat) (h : k < l.length) : (u8s l)[k]? = some (.int .u8 l[k]) := by
  simp [u8s, List.getElem?_map, List.getElem?_eq_getElem h]

def isByte (x : Int) : Prop := 0 ≤ x ∧ x < 256
def allByte (l : List Int) : Prop := ∀ x ∈ l, isByte x
def thawed (w : World) (g : Nat) : Prop := ∀ i, w.frozen? ⟨g, i, none⟩ = false

/-- the cursor of a draw lies in block g: the code that it reads (m bytes), its place (at most B), its seed -/
def Cur (v : Value) (m g : Nat) (B : Nat) (w : World) : Prop :=
  (m = 0 ∨ v.ownBlock ≠ some g) ∧ (∃ l : List Int, l.length = m ∧ allByte l ∧ Rows w v m 1 (u8s l)) ∧ w.cell? ⟨g, 0, none⟩ = some v ∧ (∃ k : Nat, k ≤ B ∧ w.cell? ⟨g, 1, none⟩ = some (.int .i64 k)) ∧ (∃ z : Int, w.cell? ⟨g, 2, none⟩ = some (.int .u64 z)) ∧ thawed w g

theorem Cur.mono {v : Value} {m g B B' : Nat} {w : World} (h : Cur v m g B w) (hb : B ≤ B') : Cur v m g B' w := by
  obtain ⟨h1, h2, h3, ⟨k, h4, h5⟩, h6⟩ := h
  exact ⟨h1, h2, h3, ⟨k, Nat.le_trans h4 hb, h5⟩, h6⟩
theorem Cur.drewN {v : Value} {m g B : Nat} {w : World} (h : Cur v m g B w) (n : Nat) : Cur v m g B (w.drewN n) := h
theorem Cur.drew {v : Value} {m g B : Nat} {w : World} (h : Cur v m g B w) : Cur v m g B w.drew := h
theorem Cur.lt {v : Value} {m g B : Nat} {w : World} (h : Cur v m g B w) : g < w.heap.size := World.block_lt_of_cell? _ _ h.2.2.1
theorem Cur.keep {v : Value} {m g B : Nat} {w w' : World} (h : Cur v m g B w) (hb : Below w.heap.size w w') : Cur v m g B w' := by
  have hg := h.lt
  obtain ⟨h1, ⟨l, l1, l2, l3⟩, h3, ⟨k, h4, h5⟩, ⟨z, h6⟩, h7⟩ := h
  have c := bcell hb
  exact ⟨h1, ⟨l, l1, l2, l3.keep hb⟩, by rw [c.1 _ _ hg]; exact h3, ⟨k, h4, by rw [c.1 _ _ hg]; exact h5⟩, ⟨z, by rw [c.1 _ _ hg]; exact h6⟩, fun i => by rw [c.2 _ _ hg]; exact h7 i⟩
theorem Cur.alloc {v : Value} {m g B : Nat} {w : World} (h : Cur v m g B w) (o : Obj) : Cur v m g B (w.alloc o) := h.keep ((Below.refl _ _).alloc (Nat.le_refl _) _)

theorem grown_alloc (b : World) (o : Obj) (row : Option Nat) : b.grownBy (b.alloc o) row := by
  have hb := (Below.refl b.heap.size b).alloc (Nat.le_refl _) o
  exact ⟨rfl, rfl, rfl, by rw [World.size_alloc]; omega, fun i hi _ => hb.block i hi⟩

/-- the cursor has been read on, k places at most; nothing else was written -/
def Read (v : Value) (m g B : Nat) (w w' : World) : Prop := Cur v m g B w' ∧ w.grownBy w' (some g)
theorem Read.trans {v : Value} {m g B B' : Nat} {a b c : World} (h : Read v m g B a b) (k : Read v m g B' b c) : Read v m g B' a c := ⟨k.1, grownBy_trans h.2 k.2⟩
theorem Read.mono {v : Value} {m g B B' : Nat} {a b : World} (h : Read v m g B a b) (hb : B ≤ B') : Read v m g B' a b := ⟨h.1.mono hb, h.2⟩
theorem Read.below {v : Value} {m g B : Nat} {a b : World} (h : Read v m g B a b) (base : Nat) (hb : base ≤ g) (hz : base ≤ a.heap.size) : Below base a b :=
  (Below.refl _ _).grown h.2 hz (fun k hk => by injection hk with hk; omega)

theorem Read.refl {v : Value} {m g B : Nat} {w : World} (h : Cur v m g B w) : Read v m g B w w := ⟨h, World.grownBy.refl _ _⟩
theorem Read.alloc {v : Value} {m g B : Nat} {a b : World} (h : Read v m g B a b) (o : Obj) : Read v m g B a (b.alloc o) :=
  ⟨h.1.alloc o, grownBy_trans h.2 (grown_alloc b o (some g))⟩
theorem Read.to {v : Value} {m g B : Nat} {a b : World} (h : Read v m g B a b) (n : Nat) : Read v m g B a (b.drewN n) := ⟨h.1.drewN n, h.2.os, h.2.tape, h.2.output, h.2.size, h.2.block⟩
theorem rows_grown {w w' : World} {v : Value} {n g : Nat} {xs : List Value} (h : Rows w v n 1 xs) (hg : w.grownBy w' (some g)) (hne : n = 0 ∨ v.ownBlock ≠ some g) : Rows w' v n 1 xs := by
  rcases hne with rfl | hne
  · obtain ⟨a, cap, rfl, h2, h3, h4, h5, h6⟩ := h
    refine ⟨a, cap, rfl, h2, h3, h4, h5, fun j u hj => ?_⟩
    have : xs = [] := List.length_eq_zero_iff.1 (by simpa using h4)
    subst this; simp at hj
  · exact h.grown hg (.inr hne)

/-- the cells of the cursor's block are written -/
theorem grown_set (w : World) (g i : Nat) (u : Value) : w.grownBy (w.setCell ⟨g, i, none⟩ u) (some g) :=
  ⟨rfl, rfl, rfl, by simp [World.setCell], fun j _ hne => Below.heap_setCell _ _ _ _ (fun e => hne (by rw [e]))⟩
theorem Cur.step {v : Value} {m g B : Nat} {w : World} (h : Cur v m g B w) (k : Nat) (z : Int) (hk : k ≤ B + 1) :
    Read v m g (B + 1) w ((w.setCell ⟨g, 1, none⟩ (.int .i64 k)).setCell ⟨g, 2, none⟩ (.int .u64 z)) := by
  obtain ⟨h1, ⟨l, l1, l2, l3⟩, h3, ⟨k0, h4, h5⟩, ⟨z0, h6⟩, h7⟩ := h
  have hg := grownBy_trans (grown_set w g 1 (.int .i64 k)) (grown_set _ g 2 (.int .u64 z))
  refine ⟨⟨h1, ⟨l, l1, l2, rows_grown l3 hg h1⟩, ?_, ⟨k, hk, ?_⟩, ⟨z, ?_⟩, fun i => ?_⟩, hg⟩
  · rw [World.cell?_setCell_other _ _ _ _ (by intro h; injection h with _ h _; omega), World.cell?_setCell_other _ _ _ _ (by intro h; injection h with _ h _; omega)]; exact h3
  · rw [World.cell?_setCell_other _ _ _ _ (by intro h; injection h with _ h _; omega), World.cell?_setCell_same _ _ _ h5]
  · exact World.cell?_setCell_same _ _ _ (show (w.setCell ⟨g, 1, none⟩ (.int .i64 k)).cell? ⟨g, 2, none⟩ = some (.int .u64 z0) by rw [World.cell?_setCell_other _ _ _ _ (by intro h; injection h with _ h _; omega)]; exact h6)
  · have := h7 i
    simpa [go_sem] using this

theorem Read.drewN {v : Value} {m g B : Nat} {a b : World} (h : Read v m g B a b) (p q : Nat) : Read v m g B (a.drewN p) (b.drewN q) :=
  ⟨h.1, h.2.os, h.2.tape, h.2.output, h.2.size, h.2.block⟩
theorem Cur.step2 {v : Value} {m g B : Nat} {w : World} (h : Cur v m g B w) (k : Nat) (z : Int) (hk : k + 1 ≤ B + 1) (p q : Nat) :
    Read v m g (B + 1) w ((((w.drewN p).setCell ⟨g, 1, none⟩ (.int .i64 ((k : Int) + 1))).setCell ⟨g, 2, none⟩ (.int .u64 z)).drewN q) := by
  have h1 := (h.drewN p).step (k + 1) z hk
  exact ⟨h1.1, h1.2.os, h1.2.tape, h1.2.output, h1.2.size, h1.2.block⟩
theorem u64_bd (Z : Int) : 0 ≤ IntKind.u64.wrap Z ∧ IntKind.u64.wrap Z < 18446744073709551616 := by
  simp [IntKind.wrap, IntKind.bits, IntKind.signed]; omega
theorem low8 (Z : Int) : 0 ≤ wrap64 (bits .and .u64 (IntKind.u64.wrap Z / 1099511627776) 255) ∧ wrap64 (bits .and .u64 (IntKind.u64.wrap Z / 1099511627776) 255) < 256 := by
  have h := u64_bd Z
  generalize IntKind.u64.wrap Z = X at h ⊢
  obtain ⟨n, rfl⟩ : ∃ n : Nat, X = n := ⟨X.toNat, by omega⟩
  have e : ((n : Int) / 1099511627776) = ((n / 1099511627776 : Nat) : Int) := by omega
  rw [e, show (255 : Int) = ((255 : Nat) : Int) from rfl, bits_and_u64_nat _ _ (by omega) (by omega)]
  have hl : (n / 1099511627776) &&& 255 ≤ 255 := Nat.and_le_right
  rw [IntWalk.wrap64_in _ (by omega)]
  omega

set_option maxHeartbeats 800000 in
theorem next_any (v : Value) (m g B : Nat) (w : World) (h : Cur v m g B w) (hB : B ≤ 1073741824) :
    Calls Try.prog 41 #[.pointer (some ⟨g, 0, none⟩)] w fun e w' => (∃ r : Int, e = .returned (.int .i64 r) ∧ 0 ≤ r ∧ r < 256) ∧ Read v m g (B + 1) w w' := by
  have H := Lib.hid h
  obtain ⟨h1, ⟨l, rfl, l2, l3⟩, h3, ⟨k, h4, h5⟩, ⟨z, h6⟩, h7⟩ := h
  obtain ⟨a, cap, rfl, _, _, _, _, hcells⟩ := l3
  have hf1 := h7 1
  have hf2 := h7 2
  have HC := Lib.hid hcells
  have HL := Lib.hid l2
  clear h7 hcells l2 h1
  by_cases hlt : k < l.length
  · obtain ⟨b, off, rfl, hsrc⟩ := HC.out k _ (u8s_at l k hlt)
    have hy := HL.out _ (List.getElem_mem hlt)
    generalize l[k] = y at hsrc hy
    obtain ⟨hy1, hy2⟩ := hy
    go_enter Try.func41, Try.ntmps41
    go_wp2
    go_quiet (fail)
    go_wp2
    go_quiet (fail)
    go_wp2
    go_quiet (fail)
    go_wp2
    go_ret
    exact ⟨⟨_, rfl, hy1, hy2⟩, H.out.step2 k _ (by omega) _ _⟩
  · go_enter Try.func41, Try.ntmps41
    go_wp2
    go_quiet (fail)
    go_wp2
    go_quiet (fail)
    go_wp2
    go_ret
    have hl8 := low8 (IntKind.u64.wrap (IntKind.u64.wrap (z * 6364136223846793005)) + 882882)
    exact ⟨⟨_, rfl, hl8.1, hl8.2⟩, H.out.step2 k _ (by omega) _ _⟩

/-- what a draw of n leaves: a number below n -/
def Drawn (v : Value) (m g B : Nat) (w : World) (hi : Nat) (e : Ending) (w' : World) : Prop := (∃ r : Nat, e = .returned (.int .i64 r) ∧ r < hi) ∧ Read v m g B w w'
/-- what a draw of a text leaves: a text of at most hi bytes -/
def DrawnS (v : Value) (m g B : Nat) (w : World) (hi : Nat) (e : Ending) (w' : World) : Prop := (∃ s : ByteArray, e = .returned (.string s) ∧ s.size ≤ hi) ∧ Read v m g B w w'
/-- .. a yes or no -/
def DrawnB (v : Value) (m g B : Nat) (w : World) (e : Ending) (w' : World) : Prop := (∃ b : Bool, e = .returned (.bool b)) ∧ Read v m g B w w'

theorem next_from {v : Value} {m g B : Nat} {w0 w : World} (h : Read v m g B w0 w) (hB : B ≤ 1073741824) :
    Calls Try.prog 41 #[.pointer (some ⟨g, 0, none⟩)] w (Drawn v m g (B + 1) w0 256) :=
  (next_any v m g B w h.1 hB).mono fun e w' ⟨⟨r, h1, h2, h3⟩, h4⟩ => ⟨⟨r.toNat, by rw [h1, Int.toNat_of_nonneg h2], by omega⟩, h.trans h4⟩

theorem ret_rem {x : Int} (n : Nat) (h0 : 0 ≤ x) (hn : 1 ≤ n) : ∃ r : Nat, Ending.returned (.int .i64 (x % (n : Int))) = .returned (.int .i64 r) ∧ r < n := by
  obtain ⟨y, rfl⟩ : ∃ y : Nat, x = y := ⟨x.toNat, by omega⟩
  exact ⟨y % n, by rw [Int.natCast_emod], Nat.mod_lt _ (by omega)⟩

set_option maxHeartbeats 800000 in
theorem pick_any {v : Value} {m g B : Nat} {w0 w : World} (n : Nat) (h : Read v m g B w0 w) (hB : B ≤ 1000000000) (h1 : 1 ≤ n) (h2 : n ≤ 60000) :
    Calls Try.prog 30 #[.pointer (some ⟨g, 0, none⟩), .int .i64 n] w (Drawn v m g (B + 2) w0 n) := by
  have HD := Lib.hid h; clear h
  by_cases hn : n ≤ 1
  · go_enter Try.func30, Try.ntmps30
    go_wp2
    go_ret
    exact ⟨⟨0, rfl, by omega⟩, HD.out.mono (by omega)⟩
  · by_cases hb : 200 < n
    · go_enter Try.func30, Try.ntmps30
      go_wp2_with ((go_at_call 41; refine (next_from (by repeat (first | with_reducible exact HD.out | with_reducible apply Read.alloc | with_reducible apply Read.to)) (by omega)).mono ?_; rintro e w' ⟨⟨ra, rfl, hra⟩, hd⟩; replace HD := Lib.hid hd; clear hd))
      go_ret
      exact ⟨ret_rem n (by omega) h1, HD.out.mono (by omega)⟩
    · go_enter Try.func30, Try.ntmps30
      go_wp2_with ((go_at_call 41; refine (next_from (by repeat (first | with_reducible exact HD.out | with_reducible apply Read.alloc | with_reducible apply Read.to)) (by omega)).mono ?_; rintro e w' ⟨⟨ra, rfl, hra⟩, hd⟩; replace HD := Lib.hid hd; clear hd))
      go_ret
      exact ⟨ret_rem n (by omega) h1, HD.out.mono (by omega)⟩

set_option maxHeartbeats 800000 in
theorem one_any {v : Value} {m g B : Nat} {w0 w : World} (n : Nat) (h : Read v m g B w0 w) (hB : B ≤ 1000000000) (h1 : 1 ≤ n) (h2 : n ≤ 60000) :
    Calls Try.prog 32 #[.pointer (some ⟨g, 0, none⟩), .int .i64 n] w (DrawnB v m g (B + 2) w0) := by
  have HD := Lib.hid h; clear h
  go_enter Try.func32, Try.ntmps32
  go_wp2_with ((go_at_call 30; refine (pick_any n (by repeat (first | with_reducible exact HD.out | with_reducible apply Read.alloc | with_reducible apply Read.to)) (by omega) h1 h2).mono ?_; rintro e w' ⟨⟨ra, rfl, hra⟩, hd⟩; replace HD := Lib.hid hd; clear hd))
  go_ret
  exact ⟨⟨_, rfl⟩, HD.out⟩

set_option maxHeartbeats 800000 in
theorem of_any {v : Value} {m g B : Nat} {w0 w : World} (lv : Value) (l : List ByteArray) (hi : Nat) (hr : Rows w lv l.length 1 (strs l)) (hne : lv.ownBlock ≠ some g) (h1 : 1 ≤ l.length) (h2 : l.length ≤ 60000) (hk : ∀ s ∈ l, s.size ≤ hi) (h : Read v m g B w0 w) (hB : B ≤ 1000000000) :
    Calls Try.prog 40 #[.pointer (some ⟨g, 0, none⟩), lv] w (DrawnS v m g (B + 2) w0 hi) := by
  have HD := Lib.hid (Read.refl h.1)
  have HR := Lib.hid hr
  have HK := Lib.hid hk
  obtain ⟨a, cap, rfl, _, _, _, _, _⟩ := hr
  clear hk
  go_enter Try.func40, Try.ntmps40
  go_wp2_with (go_at_call 30; refine (pick_any l.length HD.out (by omega) h1 h2).mono ?_; rintro e w' ⟨⟨ra, rfl, hra⟩, hd⟩; replace HD := Lib.hid hd; clear hd; obtain ⟨a', cap', hv, _, _, _, _, hcells⟩ := rows_grown HR.out HD.out.2 (Or.inr hne); injection hv with ha' _ hc'; subst ha'; obtain ⟨b, off, rfl, hsrc⟩ := hcells ra _ (strs_at l ra hra); clear hcells)
  go_ret
  exact ⟨⟨_, rfl, HK.out _ (List.getElem_mem hra)⟩, h.trans HD.out⟩

/-- a literal list, laid at the call -/
theorem of_lit {v : Value} {m g B : Nat} {w0 w : World} (l : List ByteArray) (hi : Nat) (h : Read v m g B w0 w) (hB : B ≤ 1000000000) (h1 : 1 ≤ l.length) (h2 : l.length ≤ 60000) (hk : ∀ s ∈ l, s.size ≤ hi) (E : TypeId) :
    Calls Try.prog 40 #[.pointer (some ⟨g, 0, none⟩), .slice (some ⟨w.heap.size, 0, none⟩) l.length l.length] (w.alloc (.cells (strs l).toArray E)) (DrawnS v m g (B + 2) w0 hi) :=
  of_any _ l hi (rows_newS w l E (by omega)) (by have := h.1.lt; intro e; injection e with e; have e2 : w.heap.size = g := e; omega) h1 h2 hk (h.alloc _) hB

/-- .. of numbers -/
def DrawnI (v : Value) (m g B : Nat) (w : World) (p : Int → Prop) (e : Ending) (w' : World) : Prop := (∃ r : Int, e = .returned (.int .i64 r) ∧ p r) ∧ Read v m g B w w'

set_option maxHeartbeats 800000 in
theorem among_any {v : Value} {m g B : Nat} {w0 w : World} (lv : Value) (l : List Int) (p : Int → Prop) (hr : Rows w lv l.length 1 (ints l)) (hne : lv.ownBlock ≠ some g) (h1 : 1 ≤ l.length) (h2 : l.length ≤ 60000) (hk : ∀ s ∈ l, p s) (h : Read v m g B w0 w) (hB : B ≤ 1000000000) :
    Calls Try.prog 34 #[.pointer (some ⟨g, 0, none⟩), lv] w (DrawnI v m g (B + 2) w0 p) := by
  have HD := Lib.hid (Read.refl h.1)
  have HR := Lib.hid hr
  have HK := Lib.hid hk
  obtain ⟨a, cap, rfl, _, _, _, _, _⟩ := hr
  clear hk
  go_enter Try.func34, Try.ntmps34
  go_wp2_with (go_at_call 30; refine (pick_any l.length HD.out (by omega) h1 h2).mono ?_; rintro e w' ⟨⟨ra, rfl, hra⟩, hd⟩; replace HD := Lib.hid hd; clear hd; obtain ⟨a', cap', hv, _, _, _, _, hcells⟩ := rows_grown HR.out HD.out.2 (Or.inr hne); injection hv with ha' _ hc'; subst ha'; obtain ⟨b, off, rfl, hsrc⟩ := hcells ra _ (ints_at l ra hra); clear hcells)
  go_ret
  exact ⟨⟨_, rfl, HK.out _ (List.getElem_mem hra)⟩, h.trans HD.out⟩

theorem rows_newI (w : World) (l : List Int) (E : TypeId) (h : l.length ≤ 1048576) : Rows (w.alloc (.cells (ints l).toArray E)) (.slice (some ⟨w.heap.size, 0, none⟩) l.length l.length) l.length 1 (ints l) := by
  refine ⟨_, _, rfl, Nat.le_refl _, by unfold maxLen; omega, by rw [ints_length, Nat.mul_one], (fun h => nomatch h), fun j u hj => ⟨w.heap.size, 0, rfl, ?_⟩⟩
  rw [Nat.zero_add, World.cell?_alloc_mark]
  simpa using hj
theorem among_lit {v : Value} {m g B : Nat} {w0 w : World} (l : List Int) (p : Int → Prop) (h : Read v m g B w0 w) (hB : B ≤ 1000000000) (h1 : 1 ≤ l.length) (h2 : l.length ≤ 60000) (hk : ∀ s ∈ l, p s) (E : TypeId) :
    Calls Try.prog 34 #[.pointer (some ⟨g, 0, none⟩), .slice (some ⟨w.heap.size, 0, none⟩) l.length l.length] (w.alloc (.cells (ints l).toArray E)) (DrawnI v m g (B + 2) w0 p) :=
  among_any _ l p (rows_newI w l E (by omega)) (by have := h.1.lt; intro e; injection e with e; have e2 : w.heap.size = g := e; omega) h1 h2 hk (h.alloc _) hB

/-- the cursor of a new draw -/
theorem Cur.new {v : Value} {m : Nat} {l : List Int} {w : World} (hl : l.length = m) (hb : allByte l) (hr : Rows w v m 1 (u8s l)) (T : TypeId) :
    Cur v m w.heap.size 0 (w.alloc (.cells #[v, .int .i64 0, .int .u64 0] T)) := by
  refine ⟨?_, ⟨l, hl, hb, hr.keep ((Below.refl _ _).alloc (Nat.le_refl _) _)⟩, ?_, ⟨0, Nat.le_refl _, ?_⟩, ⟨0, ?_⟩, fun i => ?_⟩
  · rcases Nat.eq_zero_or_pos m with h0 | h0
    · exact .inl h0
    · refine .inr fun e => ?_
      have := hr.lt (by intro e; rw [u8s, List.map_eq_nil_iff] at e; subst e; simp at hl; omega) _ e
      omega
  · rw [World.cell?_alloc_mark]; rfl
  · rw [World.cell?_alloc_mark]; rfl
  · rw [World.cell?_alloc_mark]; rfl
  · simp [go_sem]

/-- one call behind another -/
theorem below_on {a b c : World} (h : Below a.heap.size a b) (k : Below b.heap.size b c) : Below a.heap.size a c := h.trans (k.mono h.size)

/-- the code of a law: a row of bytes -/
def Code8 (w : World) (v : Value) : Prop := ∃ l : List Int, allByte l ∧ Rows w v l.length 1 (u8s l)
theorem Code8.keep {w w' : World} {v : Value} (h : Code8 w v) (hb : Below w.heap.size w w') : Code8 w' v := by
  obtain ⟨l, h1, h2⟩ := h
  exact ⟨l, h1, h2.keep hb⟩

end Go.Proofs.Ytibchndfndgdeaa

namespace Go.Proofs.Ytibchndfndgdeaa
open Go.RowKit

/-- a text of at most hi bytes, made in new memory -/
def MadeS (w : World) (hi : Nat) (e : Ending) (w' : World) : Prop := ∃ s : ByteArray, e = .returned (.string s) ∧ s.size ≤ hi ∧ Below w.heap.size w w'
def MadeSS (w : World) (hi : Nat) (e : Ending) (w' : World) : Prop := ∃ s t : ByteArray, e = .returned (.tuple #[.string s, .string t]) ∧ s.size ≤ hi ∧ t.size ≤ hi ∧ Below w.heap.size w w'
/-- nothing of the old world was written -/
theorem Read.made {v : Value} {m B : Nat} {w w' : World} {o : Obj} (h : Read v m w.heap.size B (w.alloc o) w') : Below w.heap.size w w' :=
  Below.trans ((Below.refl _ _).alloc (Nat.le_refl _) o) (h.below w.heap.size (Nat.le_refl _) (by rw [World.size_alloc]; omega))

end Go.Proofs.Ytibchndfndgdeaa

namespace Go.Proofs.Ytibchndfndgdeaa
open Go.RowKit

def szOf : Value → Nat
  | .string b => b.size
  | _ => 0
theorem size_x (b : ByteArray) : (b ++ ⟨#[120]⟩).size = b.size + 1 := by rw [ByteArray.size_append]; rfl

def DrawnE (v : Value) (m g B : Nat) (w : World) (e : Ending) (w' : World) : Prop := (∃ (b : Int) (t : ByteArray), e = .returned (.agg #[.int .i64 b, .string t]) ∧ -1 ≤ b ∧ b ≤ 2001 ∧ t.size ≤ 2010) ∧ Read v m g B w w'

/-- another block than the cursor's reads as before -/
theorem Read.cell {v : Value} {m g B : Nat} {a b : World} (h : Read v m g B a b) {R : Nat} (hlt : R < a.heap.size) (hne : R ≠ g) (i : Nat) :
    b.cell? ⟨R, i, none⟩ = a.cell? ⟨R, i, none⟩ ∧ b.frozen? ⟨R, i, none⟩ = a.frozen? ⟨R, i, none⟩ := by
  have e := h.2.block R hlt (fun h => hne (by injection h))
  unfold World.cell? World.frozen?
  simp only [e, and_self]
/-- a new block is written -/
theorem Read.setNew {v : Value} {m g B B0 : Nat} {a b : World} (h : Read v m g B a b) (h0 : Cur v m g B0 a) {R : Nat} (hR : a.heap.size ≤ R) (i : Nat) (u : Value) : Read v m g B a (b.setCell ⟨R, i, none⟩ u) := by
  have hg := h0.lt
  have hgr : a.grownBy (b.setCell ⟨R, i, none⟩ u) (some g) := ⟨h.2.os, h.2.tape, h.2.output, by rw [size_setCell]; exact h.2.size, fun j hj hne => by
    have hb : j ≠ R := by omega
    rw [Below.heap_setCell _ _ _ _ hb]; exact h.2.block j hj hne⟩
  obtain ⟨h1, ⟨l, l1, l2, l3⟩, h3, ⟨k, h4, h5⟩, ⟨z, h6⟩, h7⟩ := h.1
  obtain ⟨_, ⟨l', l1', l2', l3'⟩, _⟩ := h0
  have hn : ∀ o : Nat, (⟨R, i, none⟩ : Addr) ≠ ⟨g, o, none⟩ := fun o e => by injection e with e _ _; omega
  refine ⟨⟨h1, ⟨l', l1', l2', rows_grown l3' hgr h1⟩, ?_, ⟨k, h4, ?_⟩, ⟨z, ?_⟩, fun o => ?_⟩, hgr⟩
  · rw [World.cell?_setCell_other _ _ _ _ (hn 0)]; exact h3
  · rw [World.cell?_setCell_other _ _ _ _ (hn 1)]; exact h5
  · rw [World.cell?_setCell_other _ _ _ _ (hn 2)]; exact h6
  · have := h7 o
    simpa [go_sem] using this

end Go.Proofs.Ytibchndfndgdeaa

namespace Go.Proofs.Ytibchndfndgdeaa
open Go.RowKit

theorem keepE {w w' : World} (hb : Below w.heap.size w w') {b o : Nat} {u : Value} (h : w.cell? ⟨b, o, none⟩ = some u) : w'.cell? ⟨b, o, none⟩ = some u := by
  rw [hb.cell (World.block_lt_of_cell? _ _ h)]; exact h

/-- a text and an edit, made in new memory -/
def MadeSE (w : World) (e : Ending) (w' : World) : Prop := ∃ (s : ByteArray) (b : Int) (t : ByteArray), e = .returned (.tuple #[.string s, .agg #[.int .i64 b, .string t]]) ∧ s.size ≤ 2010 ∧ -1 ≤ b ∧ b ≤ 2001 ∧ t.size ≤ 2010 ∧ Below w.heap.size w w'
def MadeEE (w : World) (e : Ending) (w' : World) : Prop := ∃ (a : Int) (s : ByteArray) (b : Int) (t : ByteArray), e = .returned (.tuple #[.agg #[.int .i64 a, .string s], .agg #[.int .i64 b, .string t]]) ∧ s.size ≤ 2010 ∧ -1 ≤ a ∧ a ≤ 2001 ∧ -1 ≤ b ∧ b ≤ 2001 ∧ t.size ≤ 2010 ∧ Below w.heap.size w w'
theorem Code8.alloc {w : World} {v : Value} (h : Code8 w v) (o : Obj) : Code8 (w.alloc o) v := h.keep ((Below.refl _ _).alloc (Nat.le_refl _) _)

theorem Cur.newAt {v : Value} {m g : Nat} {l : List Int} {w : World} (hg : w.heap.size = g) (hl : l.length = m) (hb : allByte l) (hr : Rows w v m 1 (u8s l)) (T : TypeId) :
    Cur v m g 0 (w.alloc (.cells #[v, .int .i64 0, .int .u64 0] T)) := by
  subst hg; exact Cur.new hl hb hr T

theorem Cur.set {v : Value} {m g B : Nat} {b : World} (h : Cur v m g B b) {R : Nat} (hR : R ≠ g) (hv : m = 0 ∨ v.ownBlock ≠ some R) (i : Nat) (u : Value) : Cur v m g B (b.setCell ⟨R, i, none⟩ u) := by
  obtain ⟨h1, ⟨l, l1, l2, l3⟩, h3, ⟨k, h4, h5⟩, ⟨z, h6⟩, h7⟩ := h
  have hn : ∀ o : Nat, (⟨R, i, none⟩ : Addr) ≠ ⟨g, o, none⟩ := fun o e => by injection e with e _ _; omega
  refine ⟨h1, ⟨l, l1, l2, rows_grown l3 (grown_set b R i u) hv⟩, ?_, ⟨k, h4, ?_⟩, ⟨z, ?_⟩, fun o => ?_⟩
  · rw [World.cell?_setCell_other _ _ _ _ (hn 0)]; exact h3
  · rw [World.cell?_setCell_other _ _ _ _ (hn 1)]; exact h5
  · rw [World.cell?_setCell_other _ _ _ _ (hn 2)]; exact h6
  · have := h7 o
    simpa [go_sem] using this

theorem cell_alloc {w : World} {b i : Nat} {u : Value} (h : w.cell? ⟨b, i, none⟩ = some u) (o : Obj) : (w.alloc o).cell? ⟨b, i, none⟩ = some u := keepE ((Below.refl _ _).alloc (Nat.le_refl _) _) h
theorem thaw_alloc {w : World} {b : Nat} (h : thawed w b) (hb : b < w.heap.size) (o : Obj) : thawed (w.alloc o) b := fun i => ((bcell ((Below.refl w.heap.size w).alloc (Nat.le_refl _) o)).2 _ _ hb).trans (h i)
theorem Read.cellK {v : Value} {m g B : Nat} {a b : World} (h : Read v m g B a b) {R i : Nat} {u : Value} (hne : R ≠ g) (hc : a.cell? ⟨R, i, none⟩ = some u) : b.cell? ⟨R, i, none⟩ = some u :=
  (h.cell (World.block_lt_of_cell? _ _ hc) hne i).1.trans hc
theorem Read.thaw {v : Value} {m g B : Nat} {a b : World} (h : Read v m g B a b) {R : Nat} (hne : R ≠ g) (hlt : R < a.heap.size) (ht : thawed a R) : thawed b R := fun i => (h.cell hlt hne i).2.trans (ht i)

end Go.Proofs.Ytibchndfndgdeaa

namespace Go.Proofs.Ytibchndfndgdeaa
open Go.RowKit

/-- what a draw of a text leaves: a text of which P holds -/
def DrawnP (v : Value) (m g B : Nat) (w : World) (P : ByteArray → Prop) (e : Ending) (w' : World) : Prop := (∃ s : ByteArray, e = .returned (.string s) ∧ P s) ∧ Read v m g B w w'

set_option maxHeartbeats 800000 in
theorem of_anyP {v : Value} {m g B : Nat} {w0 w : World} (lv : Value) (l : List ByteArray) (P : ByteArray → Prop) (hr : Rows w lv l.length 1 (strs l)) (hne : lv.ownBlock ≠ some g) (h1 : 1 ≤ l.length) (h2 : l.length ≤ 60000) (hk : ∀ s ∈ l, P s) (h : Read v m g B w0 w) (hB : B ≤ 1000000000) :
    Calls Try.prog 40 #[.pointer (some ⟨g, 0, none⟩), lv] w (DrawnP v m g (B + 2) w0 P) := by
  have HD := Lib.hid (Read.refl h.1)
  have HR := Lib.hid hr
  have HK := Lib.hid hk
  obtain ⟨a, cap, rfl, _, _, _, _, _⟩ := hr
  clear hk
  go_enter Try.func40, Try.ntmps40
  go_wp2_with (go_at_call 30; refine (pick_any l.length HD.out (by omega) h1 h2).mono ?_; rintro e w' ⟨⟨ra, rfl, hra⟩, hd⟩; replace HD := Lib.hid hd; clear hd; obtain ⟨a', cap', hv, _, _, _, _, hcells⟩ := rows_grown HR.out HD.out.2 (Or.inr hne); injection hv with ha' _ hc'; subst ha'; obtain ⟨b, off, rfl, hsrc⟩ := hcells ra _ (strs_at l ra hra); clear hcells)
  go_ret
  exact ⟨⟨_, rfl, HK.out _ (List.getElem_mem hra)⟩, h.trans HD.out⟩
theorem of_litP {v : Value} {m g B : Nat} {w0 w : World} (l : List ByteArray) (P : ByteArray → Prop) (h : Read v m g B w0 w) (hB : B ≤ 1000000000) (h1 : 1 ≤ l.length) (h2 : l.length ≤ 60000) (hk : ∀ s ∈ l, P s) (E : TypeId) :
    Calls Try.prog 40 #[.pointer (some ⟨g, 0, none⟩), .slice (some ⟨w.heap.size, 0, none⟩) l.length l.length] (w.alloc (.cells (strs l).toArray E)) (DrawnP v m g (B + 2) w0 P) :=
  of_anyP _ l P (rows_newS w l E (by omega)) (by have := h.1.lt; intro e; injection e with e; have e2 : w.heap.size = g := e; omega) h1 h2 hk (h.alloc _) hB

def okAs (a : Int) (s : ByteArray) : Prop := Pl.atomOk a s = true
theorem Pl.words_ok (a : Int) (ha : a = 1 ∨ a = 2 ∨ a = 3 ∨ a = 4 ∨ a = 5) (l : List ByteArray) (h : l.all Pl.wordT = true) : ∀ s ∈ l, okAs a s := by
  intro s hs
  unfold okAs
  rw [Pl.atomOk1 ha]
  exact List.all_eq_true.1 h s hs
theorem Pl.stops_ok : ∀ s ∈ ([⟨#[46]⟩, ⟨#[33]⟩, ⟨#[63]⟩] : List ByteArray), okAs 6 s := by
  intro s hs
  simp only [List.mem_cons, List.not_mem_nil, or_false] at hs
  unfold okAs
  rw [Pl.atomOk6, Pl.isStop, ba_toList]
  rcases hs with rfl | rfl | rfl <;> rfl
theorem Pl.pauses_ok : ∀ s ∈ ([⟨#[44]⟩, ⟨#[59]⟩, ⟨#[58]⟩] : List ByteArray), okAs 7 s := by
  intro s hs
  simp only [List.mem_cons, List.not_mem_nil, or_false] at hs
  unfold okAs
  rw [Pl.atomOk7, Pl.isPause, ba_toList]
  rcases hs with rfl | rfl | rfl <;> rfl
theorem Pl.caps_ok (r : Nat) (h : r < 3) : Pl.atomOk (8 + (r : Int)) ⟨#[]⟩ = true := by
  rw [Pl.atomOkE (by omega) (by omega) (by omega), ba_toList]
  simp [Pl.inB]; omega

set_option maxHeartbeats 800000 in
theorem wordText_any {v : Value} {m g B : Nat} {w0 w : World} (h : Read v m g B w0 w) (hB : B ≤ 900000000) :
    Calls Try.prog 56 #[.pointer (some ⟨g, 0, none⟩)] w (DrawnP v m g (B + 2) w0 (okAs 1)) := by
  have HD := Lib.hid h; clear h
  go_enter Try.func56, Try.ntmps56
  go_wp2_with ((go_at_call 40; refine (of_litP [⟨#[99, 97, 116]⟩, ⟨#[104, 97, 112, 112, 121]⟩, ⟨#[109, 97, 107, 101]⟩, ⟨#[114, 117, 110]⟩, ⟨#[116, 114, 121]⟩, ⟨#[98, 111, 120]⟩, ⟨#[100, 105, 101]⟩, ⟨#[97]⟩, ⟨#[71, 111]⟩, ⟨#[52, 50]⟩, ⟨#[100, 111, 110, 39, 116]⟩, ⟨#[98, 101, 101]⟩, ⟨#[115]⟩, ⟨#[105, 110, 103]⟩, ⟨#[99, 104, 117, 114, 99, 104]⟩, ⟨#[112, 108, 97, 121]⟩] (okAs 1) (by repeat (first | with_reducible exact HD.out | with_reducible apply Read.alloc | with_reducible apply Read.to)) (by omega) (by decide) (by decide) (Pl.words_ok 1 (by decide) _ (by decide)) _).mono ?_; rintro e w' ⟨⟨sa, rfl, hsa⟩, hd⟩; replace HD := Lib.hid hd; clear hd))
  go_ret
  exact ⟨⟨_, rfl, hsa⟩, HD.out⟩

/-- an atom, made in new memory -/
def DrawnA (v : Value) (m g B : Nat) (w : World) (P : Int → ByteArray → Prop) (e : Ending) (w' : World) : Prop := (∃ (a : Int) (x : ByteArray), e = .returned (.agg #[.int .i64 a, .string x]) ∧ P a x) ∧ Read v m g B w w'

theorem kept2 (w : World) (T : TypeId) : (w.alloc (.cells #[.int .i64 0, .string ⟨#[]⟩] T)).cell? ⟨w.heap.size, 0, none⟩ = some (.int .i64 0) ∧ (w.alloc (.cells #[.int .i64 0, .string ⟨#[]⟩] T)).cell? ⟨w.heap.size, 1, none⟩ = some (.string ⟨#[]⟩) ∧ thawed (w.alloc (.cells #[.int .i64 0, .string ⟨#[]⟩] T)) w.heap.size := by
  refine ⟨?_, ?_, fun i => ?_⟩
  all_goals simp [go_sem]

set_option maxHeartbeats 1600000 in
theorem atom_any {v : Value} {m g B : Nat} {w0 w : World} (h : Read v m g B w0 w) (hB : B ≤ 800000000) :
    Calls Try.prog 53 #[.pointer (some ⟨g, 0, none⟩)] w (DrawnA v m g (B + 10) w0 okAs) := by
  have h1 := h.1
  have hg := h1.lt
  have hne : w.heap.size ≠ g := by omega
  have hlt : w.heap.size < (w.alloc (.cells #[.int .i64 0, .string ⟨#[]⟩] 75)).heap.size := by rw [World.size_alloc]; omega
  have HA := Lib.hid ((Read.refl h1).alloc (.cells #[.int .i64 0, .string ⟨#[]⟩] 75))
  have HD := Lib.hid (Read.refl HA.out.1)
  have C := Lib.hid (kept2 w 75)
  have HH := Lib.hid h; have HN := Lib.hid h1; clear h h1
  go_enter Try.func53, Try.ntmps53
  go_upto_region 2 with ((go_at_call 30; refine (pick_any 14 (by repeat (first | with_reducible exact HD.out | with_reducible apply Read.alloc | with_reducible apply Read.to)) (by omega) (by decide) (by decide)).mono ?_; rintro e w' ⟨⟨ra, rfl, hra⟩, hd⟩; replace HD := Lib.hid hd; clear hd))
  by_cases h8 : 8 ≤ ra
  · go_wp2_with ((go_at_call 56; refine (wordText_any (by repeat (first | with_reducible exact HD.out | with_reducible apply Read.alloc | with_reducible apply Read.to)) (by omega)).mono ?_; rintro e w' ⟨⟨sa, rfl, hsa⟩, hd⟩; replace HD := Lib.hid hd; clear hd); have hc0 := HD.out.cellK hne C.out.1; have hc1 := HD.out.cellK hne C.out.2.1; have hf0 := HD.out.thaw hne hlt C.out.2.2 0; have hf1 := HD.out.thaw hne hlt C.out.2.2 1)
    refine bodyPost_ret (v := .agg #[.int .i64 1, .string sa]) (by simp [results, Try.results53, go_sem, *]) rfl ⟨⟨_, _, rfl, hsa⟩, HH.out.trans (((HA.out.trans HD.out).setNew HN.out (Nat.le_refl _) 0 _).setNew HN.out (Nat.le_refl _) 1 _ |>.mono (by omega))⟩
  obtain rfl | rfl | rfl | rfl | rfl | rfl | rfl | rfl : ra = 0 ∨ ra = 1 ∨ ra = 2 ∨ ra = 3 ∨ ra = 4 ∨ ra = 5 ∨ ra = 6 ∨ ra = 7 := by omega
  · go_wp2_with ((go_at_call 40; refine (of_litP [⟨#[105, 110, 103]⟩, ⟨#[115]⟩, ⟨#[101, 100]⟩, ⟨#[110, 101, 115, 115]⟩, ⟨#[101, 114]⟩, ⟨#[108, 121]⟩] (okAs 2) (by repeat (first | with_reducible exact HD.out | with_reducible apply Read.alloc | with_reducible apply Read.to)) (by omega) (by decide) (by decide) (Pl.words_ok 2 (by decide) _ (by decide)) _).mono ?_; rintro e w' ⟨⟨sa, rfl, hsa⟩, hd⟩; replace HD := Lib.hid hd; clear hd); have hc0 := HD.out.cellK hne C.out.1; have hc1 := HD.out.cellK hne C.out.2.1; have hf0 := HD.out.thaw hne hlt C.out.2.2 0; have hf1 := HD.out.thaw hne hlt C.out.2.2 1)
    refine bodyPost_ret (v := .agg #[.int .i64 2, .string sa]) (by simp [results, Try.results53, go_sem, *]) rfl ⟨⟨_, _, rfl, hsa⟩, HH.out.trans (((HA.out.trans HD.out).setNew HN.out (Nat.le_refl _) 0 _).setNew HN.out (Nat.le_refl _) 1 _ |>.mono (by omega))⟩
  · go_wp2_with ((go_at_call 40; refine (of_litP [⟨#[105, 110, 103]⟩, ⟨#[115]⟩, ⟨#[101, 100]⟩, ⟨#[110, 101, 115, 115]⟩, ⟨#[101, 114]⟩, ⟨#[108, 121]⟩] (okAs 2) (by repeat (first | with_reducible exact HD.out | with_reducible apply Read.alloc | with_reducible apply Read.to)) (by omega) (by decide) (by decide) (Pl.words_ok 2 (by decide) _ (by decide)) _).mono ?_; rintro e w' ⟨⟨sa, rfl, hsa⟩, hd⟩; replace HD := Lib.hid hd; clear hd); have hc0 := HD.out.cellK hne C.out.1; have hc1 := HD.out.cellK hne C.out.2.1; have hf0 := HD.out.thaw hne hlt C.out.2.2 0; have hf1 := HD.out.thaw hne hlt C.out.2.2 1)
    refine bodyPost_ret (v := .agg #[.int .i64 2, .string sa]) (by simp [results, Try.results53, go_sem, *]) rfl ⟨⟨_, _, rfl, hsa⟩, HH.out.trans (((HA.out.trans HD.out).setNew HN.out (Nat.le_refl _) 0 _).setNew HN.out (Nat.le_refl _) 1 _ |>.mono (by omega))⟩
  · go_wp2_with ((go_at_call 40; refine (of_litP [⟨#[117, 110]⟩, ⟨#[114, 101]⟩, ⟨#[40]⟩] (okAs 3) (by repeat (first | with_reducible exact HD.out | with_reducible apply Read.alloc | with_reducible apply Read.to)) (by omega) (by decide) (by decide) (Pl.words_ok 3 (by decide) _ (by decide)) _).mono ?_; rintro e w' ⟨⟨sa, rfl, hsa⟩, hd⟩; replace HD := Lib.hid hd; clear hd); have hc0 := HD.out.cellK hne C.out.1; have hc1 := HD.out.cellK hne C.out.2.1; have hf0 := HD.out.thaw hne hlt C.out.2.2 0; have hf1 := HD.out.thaw hne hlt C.out.2.2 1)
    refine bodyPost_ret (v := .agg #[.int .i64 3, .string sa]) (by simp [results, Try.results53, go_sem, *]) rfl ⟨⟨_, _, rfl, hsa⟩, HH.out.trans (((HA.out.trans HD.out).setNew HN.out (Nat.le_refl _) 0 _).setNew HN.out (Nat.le_refl _) 1 _ |>.mono (by omega))⟩
  · go_wp2_with ((go_at_call 40; refine (of_litP [⟨#[45]⟩, ⟨#[47]⟩, ⟨#[39]⟩] (okAs 4) (by repeat (first | with_reducible exact HD.out | with_reducible apply Read.alloc | with_reducible apply Read.to)) (by omega) (by decide) (by decide) (Pl.words_ok 4 (by decide) _ (by decide)) _).mono ?_; rintro e w' ⟨⟨sa, rfl, hsa⟩, hd⟩; replace HD := Lib.hid hd; clear hd); have hc0 := HD.out.cellK hne C.out.1; have hc1 := HD.out.cellK hne C.out.2.1; have hf0 := HD.out.thaw hne hlt C.out.2.2 0; have hf1 := HD.out.thaw hne hlt C.out.2.2 1)
    refine bodyPost_ret (v := .agg #[.int .i64 4, .string sa]) (by simp [results, Try.results53, go_sem, *]) rfl ⟨⟨_, _, rfl, hsa⟩, HH.out.trans (((HA.out.trans HD.out).setNew HN.out (Nat.le_refl _) 0 _).setNew HN.out (Nat.le_refl _) 1 _ |>.mono (by omega))⟩
  · go_wp2_with ((go_at_call 40; refine (of_litP [⟨#[97]⟩, ⟨#[98]⟩, ⟨#[55]⟩] (okAs 5) (by repeat (first | with_reducible exact HD.out | with_reducible apply Read.alloc | with_reducible apply Read.to)) (by omega) (by decide) (by decide) (Pl.words_ok 5 (by decide) _ (by decide)) _).mono ?_; rintro e w' ⟨⟨sa, rfl, hsa⟩, hd⟩; replace HD := Lib.hid hd; clear hd); have hc0 := HD.out.cellK hne C.out.1; have hc1 := HD.out.cellK hne C.out.2.1; have hf0 := HD.out.thaw hne hlt C.out.2.2 0; have hf1 := HD.out.thaw hne hlt C.out.2.2 1)
    refine bodyPost_ret (v := .agg #[.int .i64 5, .string sa]) (by simp [results, Try.results53, go_sem, *]) rfl ⟨⟨_, _, rfl, hsa⟩, HH.out.trans (((HA.out.trans HD.out).setNew HN.out (Nat.le_refl _) 0 _).setNew HN.out (Nat.le_refl _) 1 _ |>.mono (by omega))⟩
  · go_wp2_with ((go_at_call 40; refine (of_litP [⟨#[46]⟩, ⟨#[33]⟩, ⟨#[63]⟩] (okAs 6) (by repeat (first | with_reducible exact HD.out | with_reducible apply Read.alloc | with_reducible apply Read.to)) (by omega) (by decide) (by decide) Pl.stops_ok _).mono ?_; rintro e w' ⟨⟨sa, rfl, hsa⟩, hd⟩; replace HD := Lib.hid hd; clear hd); have hc0 := HD.out.cellK hne C.out.1; have hc1 := HD.out.cellK hne C.out.2.1; have hf0 := HD.out.thaw hne hlt C.out.2.2 0; have hf1 := HD.out.thaw hne hlt C.out.2.2 1)
    refine bodyPost_ret (v := .agg #[.int .i64 6, .string sa]) (by simp [results, Try.results53, go_sem, *]) rfl ⟨⟨_, _, rfl, hsa⟩, HH.out.trans (((HA.out.trans HD.out).setNew HN.out (Nat.le_refl _) 0 _).setNew HN.out (Nat.le_refl _) 1 _ |>.mono (by omega))⟩
  · go_wp2_with ((go_at_call 40; refine (of_litP [⟨#[44]⟩, ⟨#[59]⟩, ⟨#[58]⟩] (okAs 7) (by repeat (first | with_reducible exact HD.out | with_reducible apply Read.alloc | with_reducible apply Read.to)) (by omega) (by decide) (by decide) Pl.pauses_ok _).mono ?_; rintro e w' ⟨⟨sa, rfl, hsa⟩, hd⟩; replace HD := Lib.hid hd; clear hd); have hc0 := HD.out.cellK hne C.out.1; have hc1 := HD.out.cellK hne C.out.2.1; have hf0 := HD.out.thaw hne hlt C.out.2.2 0; have hf1 := HD.out.thaw hne hlt C.out.2.2 1)
    refine bodyPost_ret (v := .agg #[.int .i64 7, .string sa]) (by simp [results, Try.results53, go_sem, *]) rfl ⟨⟨_, _, rfl, hsa⟩, HH.out.trans (((HA.out.trans HD.out).setNew HN.out (Nat.le_refl _) 0 _).setNew HN.out (Nat.le_refl _) 1 _ |>.mono (by omega))⟩
  · go_wp2_with ((go_at_call 30; refine (pick_any 3 (by repeat (first | with_reducible exact HD.out | with_reducible apply Read.alloc | with_reducible apply Read.to)) (by omega) (by decide) (by decide)).mono ?_; rintro e w' ⟨⟨ra, rfl, hra⟩, hd⟩; replace HD := Lib.hid hd; clear hd); have hc0 := HD.out.cellK hne C.out.1; have hc1 := HD.out.cellK hne C.out.2.1; have hf0 := HD.out.thaw hne hlt C.out.2.2 0; have hf1 := HD.out.thaw hne hlt C.out.2.2 1)
    refine bodyPost_ret (v := .agg #[.int .i64 (8 + (ra : Int)), .string ⟨#[]⟩]) (by simp [results, Try.results53, go_sem, *]) rfl ⟨⟨_, _, rfl, (Pl.caps_ok ra hra)⟩, HH.out.trans (((HA.out.trans HD.out).setNew HN.out (Nat.le_refl _) 0 _).setNew HN.out (Nat.le_refl _) 1 _ |>.mono (by omega))⟩

end Go.Proofs.Ytibchndfndgdeaa

namespace Go.Proofs.Ytibchndfndgdeaa
open Go.RowKit

/-- a state in block b -/
def St (w : World) (b : Nat) (s : Pl.Sta) : Prop :=
  w.cell? ⟨b, 0, none⟩ = some (.string s.t) ∧ w.cell? ⟨b, 1, none⟩ = some (.bool s.j) ∧ w.cell? ⟨b, 2, none⟩ = some (.bool s.g) ∧ w.cell? ⟨b, 3, none⟩ = some (.int .i64 s.c) ∧ w.cell? ⟨b, 4, none⟩ = some (.int .i64 s.k) ∧ thawed w b
theorem St.lt {w : World} {b : Nat} {s : Pl.Sta} (h : St w b s) : b < w.heap.size := World.block_lt_of_cell? _ _ h.1

theorem grown_to {w X : World} {r : Option Nat} (h : w.grownBy X r) (n : Nat) : w.grownBy (X.drewN n) r := ⟨h.os, h.tape, h.output, h.size, h.block⟩
theorem grown_drew {w X : World} {r : Option Nat} (h : w.grownBy X r) : w.grownBy X.drew r := ⟨h.os, h.tape, h.output, h.size, h.block⟩
theorem grown_then {w X : World} {b : Nat} (h : w.grownBy X (some b)) (i : Nat) (u : Value) : w.grownBy (X.setCell ⟨b, i, none⟩ u) (some b) := grownBy_trans h (grown_set X b i u)

theorem Pl.put_yes {t : ByteArray} {g : Bool} {c k : Int} {x : ByteArray} : Pl.put ⟨t, true, g, c, k⟩ x = ⟨t ++ Pl.caseB c x, true, g, 0, t.size⟩ := rfl
theorem Pl.put_no {t : ByteArray} {g : Bool} {c k : Int} {x : ByteArray} : Pl.put ⟨t, false, g, c, k⟩ x = ⟨(t ++ ⟨#[32]⟩) ++ Pl.caseB c x, false, g, 0, (t ++ ⟨#[32]⟩ : ByteArray).size⟩ := rfl
theorem Pl.size_sp (t : ByteArray) : (t ++ ⟨#[32]⟩ : ByteArray).size = t.size + 1 := by rw [ByteArray.size_append]; rfl

/-- the state behind a glue -/
def Pl.glued (s : Pl.Sta) (x : ByteArray) : Pl.Sta := if s.g = true then ⟨s.t ++ Pl.caseB s.c x, true, true, 0, s.k⟩ else Pl.put s x

theorem Pl.joinOut_size (s t : ByteArray) : (Pl.joinOut s t).size ≤ 24 := by
  unfold Pl.joinOut
  split
  · rename_i h
    simp only [Pl.joinOk, Bool.and_eq_true, decide_eq_true_iff] at h
    exact h.2
  · exact Nat.zero_le _
theorem St.keep {w w' : World} {b : Nat} {s : Pl.Sta} (h : St w b s) (hb : Below w.heap.size w w') : St w' b s := by
  have hl := h.lt
  obtain ⟨c0, c1, c2, c3, c4, hf⟩ := h
  exact ⟨keepE hb c0, keepE hb c1, keepE hb c2, keepE hb c3, keepE hb c4, fun i => ((bcell hb).2 _ _ hl).trans (hf i)⟩
theorem St.alloc {w : World} {b : Nat} {s : Pl.Sta} (h : St w b s) (o : Obj) : St (w.alloc o) b s := h.keep ((Below.refl _ _).alloc (Nat.le_refl _) o)
theorem St.drewN {w : World} {b : Nat} {s : Pl.Sta} (h : St w b s) (n : Nat) : St (w.drewN n) b s := h
theorem St.drew {w : World} {b : Nat} {s : Pl.Sta} (h : St w b s) : St w.drew b s := h
theorem grown_below {w X Y : World} {r : Option Nat} (h : w.grownBy X r) (k : Below X.heap.size X Y) : w.grownBy Y r :=
  grownBy_trans h ⟨k.os, k.tape, k.output, k.size, fun i hi _ => k.block i hi⟩
theorem grown_al {w X : World} {r : Option Nat} (h : w.grownBy X r) (o : Obj) : w.grownBy (X.alloc o) r := grown_below h ((Below.refl _ _).alloc (Nat.le_refl _) o)

theorem grown_cell {w w' : World} {b B i : Nat} {u : Value} (h : w.grownBy w' (some b)) (hne : B ≠ b) (hc : w.cell? ⟨B, i, none⟩ = some u) : w'.cell? ⟨B, i, none⟩ = some u := by
  have hl := World.block_lt_of_cell? _ _ hc
  have hb := h.block B hl (fun e => hne (by injection e))
  unfold World.cell? at hc ⊢
  simpa [hb] using hc

end Go.Proofs.Ytibchndfndgdeaa

namespace Go.Proofs.Ytibchndfndgdeaa
open Go.RowKit

end Go.Proofs.Ytibchndfndgdeaa

namespace Go.Proofs.Ytibchndfndgdeaa
open Go.RowKit

end Go.Proofs.Ytibchndfndgdeaa

namespace Go.Proofs.Ytibchndfndgdeaa
open Go.RowKit

theorem wp_named {P : Program} {c : Code} {Q : Exit → Act → World → Prop} {a : Act} {w : World} (h : ∀ W, W = w → c.wp P Q a W) : c.wp P Q a w := h w rfl

end Go.Proofs.Ytibchndfndgdeaa

namespace Go.Proofs.Ytibchndfndgdeaa
open Go.RowKit

end Go.Proofs.Ytibchndfndgdeaa

namespace Go.Proofs.Ytibchndfndgdeaa
open Go.RowKit

theorem St.new (w : World) (t : ByteArray) (j g : Bool) (c k : Int) (T : TypeId) : St (w.alloc (.cells #[.string t, .bool j, .bool g, .int .i64 c, .int .i64 k] T)) w.heap.size ⟨t, j, g, c, k⟩ := by
  refine ⟨?_, ?_, ?_, ?_, ?_, fun i => ?_⟩
  all_goals simp [go_sem]
theorem St.grown {w w' : World} {b B : Nat} {s : Pl.Sta} (h : St w B s) (hg : w.grownBy w' (some b)) (hne : B ≠ b) : St w' B s := by
  have hl := h.lt
  obtain ⟨c0, c1, c2, c3, c4, hf⟩ := h
  refine ⟨grown_cell hg hne c0, grown_cell hg hne c1, grown_cell hg hne c2, grown_cell hg hne c3, grown_cell hg hne c4, fun i => ?_⟩
  have hb := hg.block B hl (fun e => hne (by injection e))
  have := hf i
  unfold World.frozen? at this ⊢
  simpa [hb] using this
/-- two cells of an atom -/
def Atm (w : World) (b : Nat) (a : Int) (x : ByteArray) : Prop := w.cell? ⟨b, 0, none⟩ = some (.int .i64 a) ∧ w.cell? ⟨b, 1, none⟩ = some (.string x)
theorem Atm.keep {w w' : World} {b : Nat} {a : Int} {x : ByteArray} (h : Atm w b a x) (hb : Below w.heap.size w w') : Atm w' b a x := ⟨keepE hb h.1, keepE hb h.2⟩
theorem Atm.alloc {w : World} {b : Nat} {a : Int} {x : ByteArray} (h : Atm w b a x) (o : Obj) : Atm (w.alloc o) b a x := h.keep ((Below.refl _ _).alloc (Nat.le_refl _) o)
theorem Atm.new (w : World) (a : Int) (x : ByteArray) (T : TypeId) : Atm (w.alloc (.cells #[.int .i64 a, .string x] T)) w.heap.size a x := by
  constructor <;> simp [go_sem]
theorem boxed2 (w : World) (o1 o2 o3 : Obj) : (((w.alloc o1).alloc o2).alloc o3).heap.size = w.heap.size + 1 + 1 + 1 := by simp [World.size_alloc]
theorem size1 (w : World) (o1 : Obj) : (w.alloc o1).heap.size = w.heap.size + 1 := by simp [World.size_alloc]
theorem size2 (w : World) (o1 o2 : Obj) : ((w.alloc o1).alloc o2).heap.size = w.heap.size + 1 + 1 := by simp [World.size_alloc]

/-- what is laid before the first call -/
theorem laid3 (w : World) (t : ByteArray) (j g : Bool) (c k : Int) (a : Int) (x : ByteArray) (T U : TypeId) :
    St (((w.alloc (.cells #[.string t, .bool j, .bool g, .int .i64 c, .int .i64 k] T)).alloc (.cells #[.int .i64 a, .string x] U)).alloc (.cells #[.string ⟨#[]⟩, .bool false, .bool false, .int .i64 0, .int .i64 0] T)) w.heap.size ⟨t, j, g, c, k⟩ ∧
    Atm (((w.alloc (.cells #[.string t, .bool j, .bool g, .int .i64 c, .int .i64 k] T)).alloc (.cells #[.int .i64 a, .string x] U)).alloc (.cells #[.string ⟨#[]⟩, .bool false, .bool false, .int .i64 0, .int .i64 0] T)) (w.heap.size + 1) a x ∧
    St (((w.alloc (.cells #[.string t, .bool j, .bool g, .int .i64 c, .int .i64 k] T)).alloc (.cells #[.int .i64 a, .string x] U)).alloc (.cells #[.string ⟨#[]⟩, .bool false, .bool false, .int .i64 0, .int .i64 0] T)) (w.heap.size + 1 + 1) Pl.nil := by
  refine ⟨((St.new w t j g c k T).alloc _).alloc _, ?_, ?_⟩
  · have h := (Atm.new (w.alloc (.cells #[.string t, .bool j, .bool g, .int .i64 c, .int .i64 k] T)) a x U)
    rw [size1] at h
    exact h.alloc _
  · have h := St.new ((w.alloc (.cells #[.string t, .bool j, .bool g, .int .i64 c, .int .i64 k] T)).alloc (.cells #[.int .i64 a, .string x] U)) ⟨#[]⟩ false false 0 0 T
    rw [size2] at h
    exact h
theorem laid3_below (w : World) (o1 o2 o3 : Obj) : Below w.heap.size w (((w.alloc o1).alloc o2).alloc o3) :=
  (((Below.refl _ _).alloc (Nat.le_refl _) _).alloc (by rw [size1]; omega) _).alloc (by rw [size2]; omega) _

end Go.Proofs.Ytibchndfndgdeaa

namespace Go.Proofs.Ytibchndfndgdeaa
open Go.RowKit

/-- a state and, behind it, an atom -/
def Two (w : World) (b : Nat) (s : Pl.Sta) (a : Int) (x : ByteArray) : Prop := St w b s ∧ Atm w (b + 1) a x
theorem Two.keep {w w' : World} {b : Nat} {s : Pl.Sta} {a : Int} {x : ByteArray} (h : Two w b s a x) (hb : Below w.heap.size w w') : Two w' b s a x := ⟨h.1.keep hb, h.2.keep hb⟩
theorem Two.drew {w : World} {b : Nat} {s : Pl.Sta} {a : Int} {x : ByteArray} (h : Two w b s a x) : Two w.drew b s a x := h
theorem Two.alloc {w : World} {b : Nat} {s : Pl.Sta} {a : Int} {x : ByteArray} (h : Two w b s a x) (o : Obj) : Two (w.alloc o) b s a x := ⟨h.1.alloc o, h.2.alloc o⟩
theorem Two.cells {w : World} {b : Nat} {t : ByteArray} {j g : Bool} {c k : Int} {a : Int} {x : ByteArray} (h : Two w b ⟨t, j, g, c, k⟩ a x) :
    w.cell? ⟨b, 0, none⟩ = some (.string t) ∧ w.cell? ⟨b, 1, none⟩ = some (.bool j) ∧ w.cell? ⟨b, 2, none⟩ = some (.bool g) ∧ w.cell? ⟨b, 3, none⟩ = some (.int .i64 c) ∧ w.cell? ⟨b, 4, none⟩ = some (.int .i64 k) ∧ w.cell? ⟨b + 1, 0, none⟩ = some (.int .i64 a) ∧ w.cell? ⟨b + 1, 1, none⟩ = some (.string x) :=
  ⟨h.1.1, h.1.2.1, h.1.2.2.1, h.1.2.2.2.1, h.1.2.2.2.2.1, h.2.1, h.2.2⟩
theorem laid2 (w : World) (t : ByteArray) (j g : Bool) (c k : Int) (a : Int) (x : ByteArray) (T U : TypeId) :
    Two ((w.alloc (.cells #[.string t, .bool j, .bool g, .int .i64 c, .int .i64 k] T)).alloc (.cells #[.int .i64 a, .string x] U)) w.heap.size ⟨t, j, g, c, k⟩ a x := by
  refine ⟨(St.new w t j g c k T).alloc _, ?_⟩
  have h := (Atm.new (w.alloc (.cells #[.string t, .bool j, .bool g, .int .i64 c, .int .i64 k] T)) a x U)
  rw [size1] at h
  exact h
theorem laid2_below (w : World) (o1 o2 : Obj) : Below w.heap.size w ((w.alloc o1).alloc o2) :=
  ((Below.refl _ _).alloc (Nat.le_refl _) _).alloc (by rw [size1]; omega) _

theorem Two.grown {w w' : World} {b B : Nat} {s : Pl.Sta} {a : Int} {x : ByteArray} (h : Two w B s a x) (hg : w.grownBy w' (some b)) (h1 : B ≠ b) (h2 : B + 1 ≠ b) : Two w' B s a x :=
  ⟨h.1.grown hg h1, grown_cell hg h2 h.2.1, grown_cell hg h2 h.2.2⟩
/-- a state written into its block -/
theorem St.set {w : World} {b : Nat} {s0 : Pl.Sta} (h : St w b s0) (s : Pl.Sta) :
    St (((((w.setCell ⟨b, 0, none⟩ (.string s.t)).setCell ⟨b, 1, none⟩ (.bool s.j)).setCell ⟨b, 2, none⟩ (.bool s.g)).setCell ⟨b, 3, none⟩ (.int .i64 s.c)).setCell ⟨b, 4, none⟩ (.int .i64 s.k)) b s ∧
    w.grownBy (((((w.setCell ⟨b, 0, none⟩ (.string s.t)).setCell ⟨b, 1, none⟩ (.bool s.j)).setCell ⟨b, 2, none⟩ (.bool s.g)).setCell ⟨b, 3, none⟩ (.int .i64 s.c)).setCell ⟨b, 4, none⟩ (.int .i64 s.k)) (some b) := by
  obtain ⟨c0, c1, c2, c3, c4, hf⟩ := h
  have hf : ∀ i, w.frozen? ⟨b, i, none⟩ = false := hf
  refine ⟨⟨?_, ?_, ?_, ?_, ?_, fun i => ?_⟩, ?_⟩
  · simp [go_sem, *]
  · simp [go_sem, *]
  · simp [go_sem, *]
  · simp [go_sem, *]
  · simp [go_sem, *]
  · simp [go_sem, *]
  · exact grown_then (grown_then (grown_then (grown_then (grown_set _ _ _ _) _ _) _ _) _ _) _ _
theorem newZ {p q : World} {T : TypeId} (hb : Below (p.alloc (.cells #[.string ⟨#[]⟩, .bool false, .bool false, .int .i64 0, .int .i64 0] T)).heap.size (p.alloc (.cells #[.string ⟨#[]⟩, .bool false, .bool false, .int .i64 0, .int .i64 0] T)) q) : St q p.heap.size ⟨⟨#[]⟩, false, false, 0, 0⟩ := (St.new p ⟨#[]⟩ false false 0 0 T).keep hb
theorem newZd {p q : World} {T : TypeId} (hb : Below (p.alloc (.cells #[.string ⟨#[]⟩, .bool false, .bool false, .int .i64 0, .int .i64 0] T)).drew.heap.size (p.alloc (.cells #[.string ⟨#[]⟩, .bool false, .bool false, .int .i64 0, .int .i64 0] T)).drew q) : St q p.heap.size ⟨⟨#[]⟩, false, false, 0, 0⟩ := (St.new p ⟨#[]⟩ false false 0 0 T).drew.keep hb
theorem below_nx {w X Y : World} (h : Below w.heap.size w X) (hb : Below X.heap.size X Y) : Below w.heap.size w Y := h.trans (hb.mono h.size)
theorem below_into {w X Y : World} {b : Nat} (h : Below w.heap.size w X) (hg : X.grownBy Y (some b)) (hb : w.heap.size ≤ b) : Below w.heap.size w Y := h.grown hg h.size (fun q hq => by injection hq with hq; omega)

end Go.Proofs.Ytibchndfndgdeaa

namespace Go.Proofs.Ytibchndfndgdeaa
open Go.RowKit

/-- a row of the call's own has grown: the cursor is where it was -/
theorem Cur.grownNew {v : Value} {m g B : Nat} {b b' : World} {r : Option Nat} (h : Cur v m g B b) (hg : b.grownBy b' r) (hr : r ≠ some g) (hv : m = 0 ∨ v.ownBlock = none ∨ v.ownBlock ≠ r) : Cur v m g B b' := by
  have hlt := h.lt
  have e := hg.block g hlt (fun h => hr h.symm)
  obtain ⟨h1, ⟨l, l1, l2, l3⟩, h3, ⟨k, h4, h5⟩, ⟨z, h6⟩, h7⟩ := h
  have hc : ∀ i, b'.cell? ⟨g, i, none⟩ = b.cell? ⟨g, i, none⟩ := fun i => by unfold World.cell?; simp only [e]
  have hf : ∀ i, b'.frozen? ⟨g, i, none⟩ = b.frozen? ⟨g, i, none⟩ := fun i => by unfold World.frozen?; simp only [e]
  refine ⟨h1, ⟨l, l1, l2, ?_⟩, by rw [hc]; exact h3, ⟨k, h4, by rw [hc]; exact h5⟩, ⟨z, by rw [hc]; exact h6⟩, fun i => by rw [hf]; exact h7 i⟩
  rcases hv with rfl | hv
  · obtain ⟨a, cap, rfl, q2, q3, q4, q5, q6⟩ := l3
    refine ⟨a, cap, rfl, q2, q3, q4, q5, fun j u hj => ?_⟩
    have : u8s l = [] := List.length_eq_zero_iff.1 (by simpa using q4)
    rw [this] at hj; simp at hj
  · exact l3.grown hg hv
theorem Read.grownNew {v : Value} {m g B B0 : Nat} {a b b' : World} {r : Option Nat} (h : Read v m g B a b) (h0 : Cur v m g B0 a) (hg : b.grownBy b' r) (hr : ∀ k, r = some k → a.heap.size ≤ k) : Read v m g B a b' := by
  have hl := h0.lt
  have hgr : a.grownBy b' (some g) := ⟨hg.os.trans h.2.os, hg.tape.trans h.2.tape, hg.output.trans h.2.output, Nat.le_trans h.2.size hg.size, fun j hj hne => by
    rw [hg.block j (Nat.lt_of_lt_of_le hj h.2.size) (fun e => absurd (hr j e.symm) (by omega))]
    exact h.2.block j hj hne⟩
  refine ⟨?_, hgr⟩
  obtain ⟨_, ⟨l', l1', l2', l3'⟩, _⟩ := h0
  have hc := h.1.grownNew hg (fun e => absurd (hr g e) (by omega)) ?_
  · exact hc
  · rcases Nat.eq_zero_or_pos m with h0 | h0
    · exact .inl h0
    · refine .inr ?_
      cases hv : v.ownBlock with
      | none => exact .inl rfl
      | some k =>
        refine .inr fun e => ?_
        have := l3'.lt (by intro e; rw [u8s, List.map_eq_nil_iff] at e; subst e; simp at l1'; omega) _ hv
        have := hr k e.symm
        omega

def anyA (a : Int) (x : ByteArray) : Prop := -1 ≤ a ∧ a ≤ 12 ∧ x.size ≤ 24
theorem okAs_any {a : Int} {x : ByteArray} (h : okAs a x) : anyA a x := by
  have h1 := Pl.atomOk_cases h
  have h2 := (Pl.atomOk_prt h).2
  exact ⟨by omega, by omega, by omega⟩

/-- a struct of two cells that has just been laid -/
theorem Atm.newK {v : Value} {m g B : Nat} {a b : World} {R : Nat} {k : Int} {x : ByteArray} (h : Read v m g B a b) (hne : R ≠ g) (hc : Atm a R k x) : Atm b R k x := ⟨h.cellK hne hc.1, h.cellK hne hc.2⟩
theorem thaw_new (w : World) (vs : Array Value) (T : TypeId) : thawed (w.alloc (.cells vs T)) w.heap.size := fun i => by simp [go_sem]

theorem folds_snoc (l : List (Int × ByteArray)) (p : Int × ByteArray) : folds (l ++ [p]) = folds l ++ [.int .i64 p.1, .string p.2] := by
  induction l with
  | nil => rfl
  | cons q l ih => show (Value.int .i64 q.1) :: (Value.string q.2) :: folds (l ++ [p]) = (Value.int .i64 q.1) :: (Value.string q.2) :: (folds l ++ _); rw [ih]
/-- an append of one atom to a row of the call's own -/
theorem app_atom {ops : Array Oper} {rest : List Oper} {o : Oper} {a : Act} {w : World} {Q : Exit → Act → World → Prop} (hgd : o.guard = none) (s x : Operand)
    (ho : o.op = .call { callee := .builtin .append, args := #[s, x], argTypes := #[70, 70] })
    (base : Nat) (v : Value) (n : Nat) (xs : List Value) (hs : a.eval s = v) (hown : w.ownsRow base 75 2 v n xs)
    (ad : Addr) (c : Nat) (qa : Int) (qt : ByteArray) (hx : a.eval x = .slice (some ad) 1 c) (hnews : ∀ j u, [Value.int .i64 qa, .string qt][j]? = some u → w.cell? (ad.add j) = some u)
    (hnm : n + 1 ≤ 4194304) (hbase : base ≤ w.heap.size)
    (h : ∀ v' w', w'.ownsRow base 75 2 v' (n + 1) (xs ++ [Value.int .i64 qa, .string qt]) → w.grownBy w' v.ownBlock → wpList Try.prog ops Q rest (a.put o.dst v') w') : wpList Try.prog ops Q (o :: rest) a w := by
  obtain ⟨i0, hi, hz0, hz1, hz2⟩ := info_parts Try.infoAtom
  exact wpList_append_own w hgd s x 70 ho base 75 i0 (.agg #[.int .i64 0, .string ⟨#[]⟩]) 2 24 Try.underlying70 hi hz0 hz1 hz2 rfl (by decide) v n xs hs hown ad 1 c [Value.int .i64 qa, .string qt] hx rfl hnews
    (by intro u hu; simp only [List.mem_cons, List.not_mem_nil, or_false] at hu; rcases hu with rfl | rfl <;> rfl)
    (by unfold maxLen; omega) (by omega) hbase (fun v' w' h1 h2 _ => h v' w' h1 h2)
theorem atom_news (w : World) (qa : Int) (qt : ByteArray) (E : TypeId) : ∀ j u, [Value.int .i64 qa, .string qt][j]? = some u → (w.alloc (.cells #[.int .i64 qa, .string qt] E)).cell? ((⟨w.heap.size, 0, none⟩ : Addr).add j) = some u := by
  intro j u hj
  rw [Addr.add_lit, Nat.zero_add, World.cell?_alloc_mark]
  simpa using hj

/-- a list of atoms, in new memory -/
def DrawnL (v : Value) (m g B : Nat) (w w0 : World) (most : Nat) (P : Int → ByteArray → Prop) (e : Ending) (w' : World) : Prop :=
  (∃ (lv : Value) (l : List (Int × ByteArray)), e = .returned lv ∧ w'.ownsRow w.heap.size 75 2 lv l.length (folds l) ∧ l.length ≤ most ∧ (∀ p ∈ l, P p.1 p.2)) ∧ Read v m g B w0 w'

theorem own_read {v : Value} {m g B : Nat} {a b : World} {base : Nat} {e : TypeId} {size : Nat} {lv : Value} {n : Nat} {xs : List Value} (h : a.ownsRow base e size lv n xs) (hd : Read v m g B a b) (hg : g < base) : b.ownsRow base e size lv n xs := by
  refine h.kept hd.2 ?_
  cases hv : lv.ownBlock with
  | none => exact .inl rfl
  | some k => exact .inr (fun e => by have := (h.lt k hv).1; injection e with e; omega)

end Go.Proofs.Ytibchndfndgdeaa

namespace Go.Proofs.Ytibchndfndgdeaa
open Go.RowKit

theorem Try.infoOut : (Try.prog.info? 3).map (fun i => (i.zero, i.size, i.bytes)) = some (some (.int .i64 0), 1, 8) := by kernel_rfl
/-- an append of one number to a row of the call's own -/
theorem app_out {ops : Array Oper} {rest : List Oper} {o : Oper} {a : Act} {w : World} {Q : Exit → Act → World → Prop} (hgd : o.guard = none) (s x : Operand)
    (ho : o.op = .call { callee := .builtin .append, args := #[s, x], argTypes := #[24, 24] })
    (base : Nat) (v : Value) (n : Nat) (xs : List Value) (hs : a.eval s = v) (hown : w.ownsRow base 3 1 v n xs)
    (ad : Addr) (c : Nat) (q : Int) (hx : a.eval x = .slice (some ad) 1 c) (hnews : ∀ j u, [Value.int .i64 q][j]? = some u → w.cell? (ad.add j) = some u)
    (hnm : n + 1 ≤ 4194304) (hbase : base ≤ w.heap.size)
    (h : ∀ v' w', w'.ownsRow base 3 1 v' (n + 1) (xs ++ [Value.int .i64 q]) → w.grownBy w' v.ownBlock → wpList Try.prog ops Q rest (a.put o.dst v') w') : wpList Try.prog ops Q (o :: rest) a w := by
  obtain ⟨i0, hi, hz0, hz1, hz2⟩ := info_parts Try.infoOut
  exact wpList_append_own w hgd s x 24 ho base 3 i0 (.int .i64 0) 1 8 Try.underlying24 hi hz0 hz1 hz2 rfl (by decide) v n xs hs hown ad 1 c [Value.int .i64 q] hx rfl hnews
    (by intro u hu; simp only [List.mem_cons, List.not_mem_nil, or_false] at hu; rcases hu with rfl <;> rfl)
    (by unfold maxLen; omega) (by omega) hbase (fun v' w' h1 h2 _ => h v' w' h1 h2)
theorem out_news (w : World) (q : Int) (E : TypeId) (b : Nat) (hb : b = w.heap.size) : ∀ j u, [Value.int .i64 q][j]? = some u → (w.alloc (.cells #[.int .i64 q] E)).cell? ((⟨b, 0, none⟩ : Addr).add j) = some u := by
  subst hb
  intro j u hj
  rw [Addr.add_lit, Nat.zero_add, World.cell?_alloc_mark]
  simpa using hj
theorem row_formO {w : World} {base size n : Nat} {e : TypeId} {v : Value} {xs : List Value} (h : w.ownsRow base e size v n xs) : ∃ ao co, v = .slice ao n co := by
  rcases h.2 with ⟨rfl, rfl⟩ | ⟨g, c', u', rfl, _⟩
  · exact ⟨none, 0, rfl⟩
  · exact ⟨_, _, rfl⟩
/-- a row of numbers, in new memory -/
def DrawnO (v : Value) (m g B : Nat) (w w0 : World) (least most : Nat) (e : Ending) (w' : World) : Prop :=
  (∃ (la lc : Nat) (l : List Int), e = .returned (.slice (some ⟨la, 0, none⟩) l.length lc) ∧ w'.ownsRow w.heap.size 3 1 (.slice (some ⟨la, 0, none⟩) l.length lc) l.length (ints l) ∧ least ≤ l.length ∧ l.length ≤ most) ∧ Read v m g B w0 w'

set_option maxHeartbeats 800000 in
theorem few_any {v : Value} {m g B : Nat} {w0 w : World} (h : Read v m g B w0 w) (hB : B ≤ 900000000) :
    Calls Try.prog 43 #[.pointer (some ⟨g, 0, none⟩)] w (DrawnI v m g (B + 2) w0 (fun _ => True)) := by
  have HD := Lib.hid h; clear h
  go_enter Try.func43, Try.ntmps43
  go_wp2_with ((go_at_call 34; refine (among_lit [524552, 260, 1048576, 262144] (fun _ => True) (by repeat (first | with_reducible exact HD.out | with_reducible apply Read.alloc | with_reducible apply Read.to)) (by omega) (by decide) (by decide) (by simp) _).mono ?_; rintro e w' ⟨⟨ia, rfl, hia1, hia2⟩, hd⟩; replace HD := Lib.hid hd; clear hd))
  go_ret
  exact ⟨⟨_, rfl, trivial⟩, HD.out⟩

set_option maxHeartbeats 800000 in
theorem stroke_any {v : Value} {m g B : Nat} {w0 w : World} (h : Read v m g B w0 w) (hB : B ≤ 900000000) :
    Calls Try.prog 49 #[.pointer (some ⟨g, 0, none⟩)] w (DrawnI v m g (B + 20) w0 (fun _ => True)) := by
  have HD := Lib.hid (Read.refl h.1)
  have HH := Lib.hid h
  clear h
  go_enter Try.func49, Try.ntmps49
  go_wp2_with (first
    | (go_at_call 30; have hx := H1; refine (pick_any 4 (Read.refl H1.out.1) (by omega) (by decide) (by decide)).mono ?_; rintro e w2 ⟨⟨r, rfl, hr⟩, hd⟩; have H2 := Lib.hid (H1.out.trans hd); clear hd hx)
    | (go_at_call 34; have hx := H1; refine (among_lit [524552, 260, 1048576, 262144, 4194304, 514, 8, 2064, 2097152] (fun _ => True) (Read.refl H1.out.1) (by omega) (by decide) (by decide) (by simp) _).mono ?_; rintro e w2 ⟨⟨x, rfl, _⟩, hd⟩; have H2 := Lib.hid (H1.out.trans hd); clear hd hx)
    | (go_at_call 32; refine (one_any 2 HD.out (by omega) (by decide) (by decide)).mono ?_; rintro e w1 ⟨⟨ba, rfl⟩, hd⟩; have H1 := Lib.hid hd; clear hd))
  · go_ret
    exact ⟨⟨_, rfl, trivial⟩, HH.out.trans (H2.out.mono (show B + 2 + 2 ≤ B + 20 by omega))⟩
  · go_loopw [3, 4] (fun s n wr => ∃ (x : Int) (k : Nat), s = .int .i64 x ∧ n = .int .i64 k ∧ k ≤ 4 ∧ Read v m g (B + 4 + 2 * (4 - k)) w wr) (fun _ n _ => (intOf n).toNat)
    case atStart => exact ⟨0, 1 + r, rfl, by go_num, by omega, H2.out.mono (show B + 2 + 2 ≤ B + 4 + 2 * (4 - (1 + r)) by omega)⟩
    case round =>
      obtain ⟨x, k, rfl, rfl, hk, hd⟩ := hrel
      have H := Lib.hid hd; clear hd
      by_cases h0 : 0 < k
      · have hk1 : (0 : Int) < (k : Int) := by omega
        go_wp2_with (go_at_call 30; refine (pick_any 23 (Read.refl H.out.1) (by omega) (by decide) (by decide)).mono ?_; rintro e w3 ⟨⟨q, rfl, hq⟩, hd⟩; have H3 := Lib.hid (H.out.trans hd); clear hd)
        go_roundw
        case rel => exact ⟨_, k - 1, rfl, by go_num, by omega, H3.out.mono (show B + 4 + 2 * (4 - k) + 2 ≤ B + 4 + 2 * (4 - (k - 1)) by omega)⟩
        case measure => simp [intOf]; omega
      · have hk1 : ¬ (0 : Int) < (k : Int) := by omega
        go_wp2
        go_ret
        exact ⟨⟨_, rfl, trivial⟩, HH.out.trans (H.out.mono (show B + 4 + 2 * (4 - k) ≤ B + 20 by omega))⟩

theorem ints_put (l : List Int) (x : Int) : ints (l ++ [x]) = ints l ++ [Value.int .i64 x] := by simp [ints]
/-- a row that has grown by one number, and the cursor -/
theorem out_grown {v : Value} {m g B0 B : Nat} {w w1 w2 : World} {lv lv2 : Value} {l : List Int} {x : Int} {E : TypeId} (HN : Cur v m g B0 w) (H1 : Read v m g B w w1) (O1 : w1.ownsRow w.heap.size 3 1 lv l.length (ints l))
    (h2 : w2.ownsRow w.heap.size 3 1 lv2 (l.length + 1) (ints l ++ [Value.int .i64 x])) (hg : (w1.alloc (.cells #[.int .i64 x] E)).grownBy w2 lv.ownBlock) :
    Read v m g B w w2 ∧ w2.ownsRow w.heap.size 3 1 lv2 (l ++ [x]).length (ints (l ++ [x])) :=
  ⟨(H1.alloc (.cells #[.int .i64 x] E)).grownNew HN hg (fun j hj => (O1.lt j hj).1), by rw [List.length_append, ints_put]; exact h2⟩

set_option maxHeartbeats 1600000 in
theorem outline_any {v : Value} {m g B : Nat} {w0 w : World} (h : Read v m g B w0 w) (hB : B ≤ 800000000) :
    Calls Try.prog 44 #[.pointer (some ⟨g, 0, none⟩)] w (DrawnO v m g (B + 100) w w0 1 3) := by
  have h1 := h.1
  have hg := h1.lt
  have HO := Lib.hid (World.ownsRow_made (base := w.heap.size) (e := 3) (size := 1) w #[] 0 (Nat.le_refl _) (by unfold maxLen; omega) rfl)
  have HA := Lib.hid ((Read.refl h1).alloc (.cells #[] 3))
  have HH := Lib.hid h; have HN := Lib.hid h1; clear h h1
  go_enter Try.func44, Try.ntmps44
  go_wp2_with (go_at_call 30; refine (pick_any 3 (Read.refl HA.out.1) (by omega) (by omega) (by omega)).mono ?_; rintro e w1 ⟨⟨ra, rfl, hra⟩, hd⟩; have H1 := Lib.hid (HA.out.trans hd); have O1 := Lib.hid (own_read HO.out hd hg); clear hd HA HO)
  go_loopw [3, 4] (fun lv n wr => ∃ (l : List Int) (k : Nat), n = .int .i64 k ∧ l.length + k ≤ 3 ∧ 1 ≤ l.length + k ∧ wr.ownsRow w.heap.size 3 1 lv l.length (ints l) ∧ Read v m g (B + 2 + 30 * l.length) w wr) (fun _ n _ => (intOf n).toNat)
  case atStart => exact ⟨[], 1 + ra, by go_num, by simp; omega, by show 1 ≤ 0 + (1 + ra); omega, O1.out, H1.out⟩
  clear O1 H1
  case round =>
    obtain ⟨l, k, rfl, hk, hk2, hown, hd⟩ := hrel
    have O := Lib.hid hown; have H := Lib.hid hd
    clear hown hd
    by_cases h0 : 0 < k
    · have hk1 : (0 : Int) < (k : Int) := by omega
      go_wp2_with (first
        | (at_builtin; have HO2 := O2; refine app_out rfl _ _ rfl w.heap.size _ l.length (ints l) rfl (O2.out.alloc _) ⟨_, 0, none⟩ 1 x rfl (out_news _ x _ _ rfl) (by omega) (by have := H2.out.2.size; rw [World.size_alloc]; omega) ?_; intro v2 w3 hown3 hg3)
        | (go_at_call 49; have hx := H1; refine (stroke_any (Read.refl H1.out.1) (by omega)).mono ?_; rintro e w2 ⟨⟨x, rfl, _⟩, hd⟩; have O2 := Lib.hid (own_read O1.out hd hg); have H2 := Lib.hid ((H1.out.trans hd).mono (show _ ≤ B + 2 + 30 * (l.length + 1) by omega)); clear hd)
        | (go_at_call 43; have hx := H1; refine (few_any (Read.refl H1.out.1) (by omega)).mono ?_; rintro e w2 ⟨⟨x, rfl, _⟩, hd⟩; have O2 := Lib.hid (own_read O1.out hd hg); have H2 := Lib.hid ((H1.out.trans hd).mono (show _ ≤ B + 2 + 30 * (l.length + 1) by omega)); clear hd)
        | (go_at_call 32; refine (one_any 5 (Read.refl H.out.1) (by omega) (by decide) (by decide)).mono ?_; rintro e w1 ⟨⟨ba, rfl⟩, hd⟩; have O1 := Lib.hid (own_read O.out hd hg); have H1 := Lib.hid (H.out.trans hd); clear hd))
      all_goals
        have HG := Lib.hid (out_grown HN.out H2.out O2.out hown3 hg3)
        clear O H O1 H1 O2 H2 hown3 hg3
        go_roundw
        case rel => exact ⟨l ++ [x], k - 1, by go_num, by simp; omega, by rw [List.length_append]; show 1 ≤ l.length + 1 + _; omega, HG.out.2, by rw [List.length_append]; exact HG.out.1⟩
        case measure => simp [intOf]; omega
    · have hk1 : ¬ (0 : Int) < (k : Int) := by omega
      obtain ⟨la, lc, rfl⟩ := Joins.ownsRow_form O.out (by omega)
      go_wp2
      go_ret
      exact ⟨⟨la, lc, l, rfl, O.out, by omega, by omega⟩, HH.out.trans (H.out.mono (show B + 2 + 30 * l.length ≤ B + 100 by omega))⟩

set_option maxHeartbeats 800000 in
theorem anyStroke_any {v : Value} {m g B : Nat} {w0 w : World} (h : Read v m g B w0 w) (hB : B ≤ 800000000) :
    Calls Try.prog 45 #[.pointer (some ⟨g, 0, none⟩)] w (DrawnI v m g (B + 30) w0 (fun _ => True)) := by
  have HD := Lib.hid (Read.refl h.1)
  have HH := Lib.hid h
  clear h
  go_enter Try.func45, Try.ntmps45
  go_wp2_with (first
    | (go_at_call 49; have hx := H1; refine (stroke_any (Read.refl H1.out.1) (by omega)).mono ?_; rintro e w2 ⟨⟨x, rfl, _⟩, hd⟩; have H2 := Lib.hid ((H1.out.trans hd).mono (show _ ≤ B + 30 by omega)); clear hd hx)
    | (go_at_call 34; have hx := H1; refine (among_lit [0, -1, 8388608, 8388607, 1, 1099511627776] (fun _ => True) (Read.refl H1.out.1) (by omega) (by decide) (by decide) (by simp) _).mono ?_; rintro e w2 ⟨⟨x, rfl, _⟩, hd⟩; have H2 := Lib.hid ((H1.out.trans hd).mono (show _ ≤ B + 30 by omega)); clear hd hx)
    | (go_at_call 32; refine (one_any 12 HD.out (by omega) (by decide) (by decide)).mono ?_; rintro e w1 ⟨⟨ba, rfl⟩, hd⟩; have H1 := Lib.hid hd; clear hd))
  all_goals go_ret
  all_goals exact ⟨⟨_, rfl, trivial⟩, HH.out.trans H2.out⟩

theorem own_lower2 {w : World} {b b' : Nat} {E : TypeId} {s n : Nat} {v : Value} {xs : List Value} (h : w.ownsRow b E s v n xs) (hb : b' ≤ b) : w.ownsRow b' E s v n xs := by
  refine ⟨h.1, ?_⟩
  rcases h.2 with h1 | ⟨g, c, u, h1, h2, h3⟩
  · exact .inl h1
  · exact .inr ⟨g, c, u, h1, Nat.le_trans hb h2, h3⟩

set_option maxHeartbeats 1600000 in
theorem anyOutline_any {v : Value} {m g B : Nat} {w0 w : World} (h : Read v m g B w0 w) (hB : B ≤ 700000000) :
    Calls Try.prog 33 #[.pointer (some ⟨g, 0, none⟩)] w (DrawnO v m g (B + 200) w w0 0 7) := by
  have h1 := h.1
  have hg := h1.lt
  have HD := Lib.hid (Read.refl h1)
  have HH := Lib.hid h; have HN := Lib.hid h1; clear h h1
  go_enter Try.func33, Try.ntmps33
  go_upto_region 2 with (go_at_call 30; refine (pick_any 16 HD.out (by omega) (by omega) (by omega)).mono ?_; rintro e w1 ⟨⟨ra, rfl, hra⟩, hd⟩; have H1 := Lib.hid hd; clear hd)
  have hz := H1.out.2.size
  by_cases c0 : ra = 0
  · subst c0
    have HO := Lib.hid (World.ownsRow_made (base := w.heap.size) (e := 3) (size := 1) w1 #[] 0 hz (by unfold maxLen; omega) rfl)
    go_wp2
    go_ret
    exact ⟨⟨_, _, [], rfl, HO.out, by simp, by simp⟩, HH.out.trans ((H1.out.alloc _).mono (show B + 2 ≤ B + 200 by omega))⟩
  by_cases c1 : ra = 1
  · subst c1
    have HO := Lib.hid (World.ownsRow_made (base := w.heap.size) (e := 3) (size := 1) w1 #[] 0 hz (by unfold maxLen; omega) rfl)
    have HA := Lib.hid (H1.out.alloc (.cells #[] 3))
    go_wp2_with (go_at_call 30; refine (pick_any 2 (Read.refl HA.out.1) (by omega) (by omega) (by omega)).mono ?_; rintro e w2 ⟨⟨r, rfl, hr⟩, hd⟩; have H2 := Lib.hid (HA.out.trans hd); have O2 := Lib.hid (own_read HO.out hd hg); clear hd HA HO)
    go_loopw [3, 4] (fun lv n wr => ∃ (l : List Int) (k : Nat), n = .int .i64 k ∧ l.length + k ≤ 7 ∧ 1 ≤ l.length + k ∧ wr.ownsRow w.heap.size 3 1 lv l.length (ints l) ∧ Read v m g (B + 4 + 2 * l.length) w wr) (fun _ n _ => (intOf n).toNat)
    case atStart => exact ⟨[], 6 + r, by go_num, by simp; omega, by show 1 ≤ 0 + (6 + r); omega, O2.out, H2.out⟩
    clear O2 H2
    case round =>
      obtain ⟨l, k, rfl, hk, hk2, hown, hd⟩ := hrel
      have O := Lib.hid hown; have H := Lib.hid hd
      clear hown hd
      by_cases h0 : 0 < k
      · have hk1 : (0 : Int) < (k : Int) := by omega
        go_wp2_with (first
          | (at_builtin; have HO2 := O2; refine app_out rfl _ _ rfl w.heap.size _ l.length (ints l) rfl (O2.out.alloc _) ⟨_, 0, none⟩ 1 x rfl (out_news _ x _ _ rfl) (by omega) (by have := H2.out.2.size; rw [World.size_alloc]; omega) ?_; intro v2 w3 hown3 hg3)
          | (go_at_call 43; refine (few_any (Read.refl H.out.1) (by omega)).mono ?_; rintro e w2 ⟨⟨x, rfl, _⟩, hd⟩; have O2 := Lib.hid (own_read O.out hd hg); have H2 := Lib.hid ((H.out.trans hd).mono (show _ ≤ B + 4 + 2 * (l.length + 1) by omega)); clear hd))
        have HG := Lib.hid (out_grown HN.out H2.out O2.out hown3 hg3)
        clear O H O2 H2 hown3 hg3
        go_roundw
        case rel => exact ⟨l ++ [x], k - 1, by go_num, by simp; omega, by rw [List.length_append]; show 1 ≤ l.length + 1 + _; omega, HG.out.2, by rw [List.length_append]; exact HG.out.1⟩
        case measure => simp [intOf]; omega
      · have hk1 : ¬ (0 : Int) < (k : Int) := by omega
        obtain ⟨la, lc, rfl⟩ := Joins.ownsRow_form O.out (by omega)
        go_wp2
        go_ret
        exact ⟨⟨la, lc, l, rfl, O.out, by omega, by omega⟩, HH.out.trans (H.out.mono (show B + 4 + 2 * l.length ≤ B + 200 by omega))⟩
  by_cases c2 : ra = 2
  · subst c2
    go_wp2_with (first
      | (at_builtin; have HO2 := O3; refine app_out rfl _ _ rfl w.heap.size _ l.length (ints l) rfl (O3.out.alloc _) ⟨_, 0, none⟩ 1 x rfl (out_news _ x _ _ rfl) (by omega) (by have := H3.out.2.size; rw [World.size_alloc]; omega) ?_; intro v2 w4 hown4 hg4)
      | (go_at_call 45; have hx := H2; refine (anyStroke_any (Read.refl H2.out.1) (by omega)).mono ?_; rintro e w3 ⟨⟨x, rfl, _⟩, hd⟩; have O3 := Lib.hid (own_read O2.out hd hg); have H3 := Lib.hid (H2.out.trans hd); clear hd)
      | (go_at_call 44; refine (outline_any (Read.refl H1.out.1) (by omega)).mono ?_; rintro e w2 ⟨⟨lg, lc, l, rfl, hown, hl1, hl⟩, hd⟩; have O2 := Lib.hid (own_lower2 hown hz); have H2 := Lib.hid (H1.out.trans hd); clear hd hown))
    have HG := Lib.hid (out_grown HN.out H3.out O3.out hown4 hg4)
    obtain ⟨la, lc2, rfl⟩ := Joins.ownsRow_form hown4 (by omega)
    go_ret
    exact ⟨⟨la, lc2, l ++ [x], by rw [List.length_append]; rfl, by have h9 := HG.out.2; rw [List.length_append] at h9 ⊢; exact h9, by simp, by rw [List.length_append]; show _ + 1 ≤ 7; omega⟩, HH.out.trans (HG.out.1.mono (show B + 2 + 100 + 30 ≤ B + 200 by omega))⟩
  have d0 : ¬ (ra : Int) = 0 := by omega
  have d1 : ¬ (ra : Int) = 1 := by omega
  have d2 : ¬ (ra : Int) = 2 := by omega
  go_wp2_with (go_at_call 44; refine (outline_any (Read.refl H1.out.1) (by omega)).mono ?_; rintro e w2 ⟨⟨lg, lc, l, rfl, hown, hl1, hl⟩, hd⟩; have O2 := Lib.hid (own_lower2 hown hz); have H2 := Lib.hid (H1.out.trans hd); clear hd hown)
  go_ret
  exact ⟨⟨_, _, l, rfl, O2.out, by omega, by omega⟩, HH.out.trans (H2.out.mono (show B + 2 + 100 ≤ B + 200 by omega))⟩

end Go.Proofs.Ytibchndfndgdeaa

namespace Go.Proofs.Ytibchndfndgdeaa
open Go.RowKit

theorem Read.onB {v : Value} {m g B : Nat} {a b c : World} (h : Read v m g B a b) (hb : Below b.heap.size b c) : Read v m g B a c := ⟨h.1.keep hb, grownBy_trans h.2 ⟨hb.os, hb.tape, hb.output, hb.size, fun j hj _ => hb.block j hj⟩⟩
/-- a text of at most hi bytes -/
def RetLen (hi : Nat) (w : World) (e : Ending) (w' : World) : Prop := (∃ s : ByteArray, e = .returned (.string s) ∧ s.size ≤ hi) ∧ Below w.heap.size w w'
def RetYN (w : World) (e : Ending) (w' : World) : Prop := (∃ b : Bool, e = .returned (.bool b)) ∧ Below w.heap.size w w'

set_option maxHeartbeats 800000 in
theorem l5Format_w (a : Int) (x : ByteArray) (w : World) (hs : x.size ≤ 1048576) :
    Calls Try.prog 55 #[.agg #[.int .i64 a, .string x]] w (RetLen (x.size + 6) w) := by
  have HB := Lib.hid (Joins.below_alloc1 w (.cells #[.int .i64 a, .string x] 75))
  by_cases h : a = 1 ∨ a = 2 ∨ a = 3 ∨ a = 4 ∨ a = 5 ∨ a = 8 ∨ a = 9 ∨ a = 10
  · rcases h with rfl | rfl | rfl | rfl | rfl | rfl | rfl | rfl
    all_goals
      go_enter Try.func55, Try.ntmps55
      go_wp2
      go_ret
      exact ⟨⟨_, rfl, by first | omega | (simp only [ByteArray.size_append]; show _ + _ ≤ _; first | (show 1 + _ + 1 ≤ _; omega) | (show 2 + _ + 1 ≤ _; omega) | (show 1 + _ + 2 ≤ _; omega) | (show 2 + _ + 2 ≤ _; omega)) | (show 4 ≤ _; omega) | (show 3 ≤ _; omega) | (show 5 ≤ _; omega)⟩, HB.out⟩
  · have n1 : ¬ a = 1 := by omega
    have n2 : ¬ a = 2 := by omega
    have n3 : ¬ a = 3 := by omega
    have n4 : ¬ a = 4 := by omega
    have n5 : ¬ a = 5 := by omega
    have n8 : ¬ a = 8 := by omega
    have n9 : ¬ a = 9 := by omega
    have n10 : ¬ a = 10 := by omega
    clear h
    go_enter Try.func55, Try.ntmps55
    go_wp2
    go_ret
    exact ⟨⟨_, rfl, by simp only [ByteArray.size_append]; show 1 + _ + 1 ≤ _; omega⟩, HB.out⟩

set_option maxHeartbeats 1600000 in
theorem l5List_w (v : Value) (l : List (Int × ByteArray)) (w : World) (hr : Rows w v l.length 2 (folds l)) (hl : l.length ≤ 10) (hz : ∀ p ∈ l, p.2.size ≤ 100) :
    Calls Try.prog 51 #[v] w (RetYN w) := by
  obtain ⟨a, cap, rfl, _, _, _, _, hcells⟩ := hr
  have HC := Lib.hid hcells; have HZ := Lib.hid hz
  clear hcells hz
  have HI := Lib.hid (l1In_any (l.length : Int) 1 10 w)
  cases hin : Pl.inB (l.length : Int) 1 10
  · rw [hin] at HI
    go_enter Try.func51, Try.ntmps51
    go_wp2_with (go_at_call 27; refine HI.out.mono ?_; rintro e w' ⟨rfl, rfl⟩)
    go_ret
    exact ⟨⟨_, rfl⟩, Below.refl _ _⟩
  · rw [hin] at HI
    go_enter Try.func51, Try.ntmps51
    go_wp2_with (go_at_call 27; refine HI.out.mono ?_; rintro e w' ⟨rfl, rfl⟩)
    go_loopw [3, 4] (fun n i wr => ∃ (k : Nat) (z : Int), k ≤ l.length ∧ i = .int .i64 k ∧ n = .int .i64 z ∧ 0 ≤ z + 10 ∧ z ≤ 10 + 106 * (k : Int) ∧ Below w.heap.size w wr) (fun _ i _ => l.length - (intOf i).toNat)
    case atStart => exact ⟨0, (l.length : Int) - 1, Nat.zero_le _, rfl, rfl, by omega, by omega, Below.refl _ _⟩
    case round =>
      obtain ⟨k, z, hk, rfl, rfl, hz0, hz1, hb⟩ := hrel
      have HB := Lib.hid hb; clear hb
      by_cases hlt : k < l.length
      · obtain ⟨b, off, rfl, c1, c2⟩ := fold_cells (HC.out.keep HB.out) k hlt
        have hki : (k : Int) < (l.length : Int) := by omega
        have hk0 : (0 : Int) ≤ (k : Int) := by omega
        have hx := HZ.out _ (List.getElem_mem hlt)
        generalize l[k] = p at c1 c2 hx
        obtain ⟨pa, px⟩ := p
        dsimp only at c1 c2 hx
        have HG := Lib.hid (fun W => l5Good_any pa px W (by unfold maxLen; omega))
        cases hg : Pl.atomOk pa px
        · rw [hg] at HG
          go_wp2_with (go_at_call 54; (with_reducible refine (HG.out _).mono ?_); rintro e w1 ⟨rfl, hb1⟩; have HB1 := Lib.hid (HB.out.trans (hb1.mono HB.out.size)); clear hb1)
          go_ret
          exact ⟨⟨_, rfl⟩, HB1.out⟩
        · rw [hg] at HG
          go_wp2_with (first
            | (go_at_call 55; have hx2 := HB1; refine (l5Format_w pa px _ (by omega)).mono ?_; rintro e w2 ⟨⟨s, rfl, hs⟩, hb2⟩; have HB2 := Lib.hid (HB1.out.trans (hb2.mono HB1.out.size)); clear hb2 hx2)
            | (go_at_call 54; (with_reducible refine (HG.out _).mono ?_); rintro e w1 ⟨rfl, hb1⟩; have HB1 := Lib.hid (HB.out.trans (hb1.mono HB.out.size)); have d1 := keepc hb1 c1; have d2 := keepc hb1 c2; clear hb1))
          go_roundw
          case rel => exact ⟨k + 1, _, by omega, by go_num, rfl, by omega, by omega, HB2.out⟩
          case measure => simp [intOf]; omega
      · obtain rfl : k = l.length := by omega
        go_wp2
        go_ret
        exact ⟨⟨_, rfl⟩, HB.out⟩

set_option maxHeartbeats 1600000 in
theorem l5Text_w (v : Value) (l : List (Int × ByteArray)) (w : World) (hr : Rows w v l.length 2 (folds l)) (hl : l.length ≤ 10) (hz : ∀ p ∈ l, p.2.size ≤ 100) :
    Calls Try.prog 52 #[v] w (RetLen 1070 w) := by
  obtain ⟨a, cap, rfl, _, _, _, _, hcells⟩ := hr
  have HC := Lib.hid hcells; have HZ := Lib.hid hz
  clear hcells hz
  go_enter Try.func52, Try.ntmps52
  go_wp2
  go_loopw [3, 4] (fun n i wr => ∃ (k : Nat) (s : ByteArray), k ≤ l.length ∧ i = .int .i64 k ∧ n = .string s ∧ s.size ≤ 107 * k ∧ Below w.heap.size w wr) (fun _ i _ => l.length - (intOf i).toNat)
  case atStart => exact ⟨0, ⟨#[]⟩, Nat.zero_le _, rfl, rfl, Nat.le_refl _, Below.refl _ _⟩
  case round =>
    obtain ⟨k, s, hk, rfl, rfl, hsz, hb⟩ := hrel
    have HB := Lib.hid hb; clear hb
    by_cases hlt : k < l.length
    · obtain ⟨b, off, rfl, c1, c2⟩ := fold_cells (HC.out.keep HB.out) k hlt
      have hki : (k : Int) < (l.length : Int) := by omega
      have hk0 : (0 : Int) ≤ (k : Int) := by omega
      have hx := HZ.out _ (List.getElem_mem hlt)
      generalize l[k] = p at c1 c2 hx
      obtain ⟨pa, px⟩ := p
      dsimp only at c1 c2 hx
      by_cases h0 : 0 < k
      · have hkp : (0 : Int) < (k : Int) := by omega
        go_wp2_with (go_at_call 55; refine (l5Format_w pa px _ (by omega)).mono ?_; rintro e w2 ⟨⟨t, rfl, ht⟩, hb2⟩; have HB2 := Lib.hid (HB.out.trans (hb2.mono HB.out.size)); clear hb2)
        go_roundw
        case rel => exact ⟨k + 1, _, by omega, by go_num, rfl, by simp only [ByteArray.size_append]; show _ + 1 + _ ≤ _; omega, HB2.out⟩
        case measure => simp [intOf]; omega
      · have hkp : ¬ (0 : Int) < (k : Int) := by omega
        go_wp2_with (go_at_call 55; refine (l5Format_w pa px _ (by omega)).mono ?_; rintro e w2 ⟨⟨t, rfl, ht⟩, hb2⟩; have HB2 := Lib.hid (HB.out.trans (hb2.mono HB.out.size)); clear hb2)
        go_roundw
        case rel => exact ⟨k + 1, _, by omega, by go_num, rfl, by simp only [ByteArray.size_append]; omega, HB2.out⟩
        case measure => simp [intOf]; omega
    · obtain rfl : k = l.length := by omega
      go_wp2
      go_ret
      exact ⟨⟨_, rfl, by omega⟩, HB.out⟩

set_option maxHeartbeats 1600000 in
theorem atoms_any {v : Value} {m g B : Nat} {w0 w : World} (h : Read v m g B w0 w) (hB : B ≤ 700000000) :
    Calls Try.prog 50 #[.pointer (some ⟨g, 0, none⟩)] w (DrawnL v m g (B + 100) w w0 4 okAs) := by
  have h1 := h.1
  have hg := h1.lt
  have HO := Lib.hid (World.ownsRow_made (base := w.heap.size) (e := 75) (size := 2) w #[] 0 (Nat.le_refl _) (by unfold maxLen; omega) rfl)
  have HA := Lib.hid ((Read.refl h1).alloc (.cells #[] 75))
  have HH := Lib.hid h; have HN := Lib.hid h1; clear h h1
  go_enter Try.func50, Try.ntmps50
  go_wp2_with (go_at_call 30; refine (pick_any 4 (Read.refl HA.out.1) (by omega) (by omega) (by omega)).mono ?_; rintro e w1 ⟨⟨ra, rfl, hra⟩, hd⟩; have H1 := Lib.hid (HA.out.trans hd); have O1 := Lib.hid (own_read HO.out hd hg); clear hd HA HO)
  go_loopw [3, 4] (fun lv n wr => ∃ (l : List (Int × ByteArray)) (k : Nat), n = .int .i64 k ∧ l.length + k ≤ 4 ∧ wr.ownsRow w.heap.size 75 2 lv l.length (folds l) ∧ Hid (∀ p ∈ l, okAs p.1 p.2) ∧ Read v m g (B + 2 + 10 * l.length) w wr) (fun _ n _ => (intOf n).toNat)
  case atStart => exact ⟨[], 1 + ra, by go_num, by simp; omega, O1.out, Lib.hid (by simp), H1.out⟩
  clear O1 H1
  case round =>
    obtain ⟨l, k, rfl, hk, hown, HK, hd⟩ := hrel
    have O := Lib.hid hown; have H := Lib.hid hd
    clear hown hd
    by_cases h0 : 0 < k
    · have hk1 : (0 : Int) < (k : Int) := by omega
      go_wp2_with (first
        | (at_builtin; have HO2 := O1; refine app_atom rfl _ _ rfl w.heap.size _ l.length (folds l) rfl (O1.out.alloc _) ⟨_, 0, none⟩ 1 pa px rfl (atom_news _ pa px _) (by omega) (by have := H1.out.2.size; rw [World.size_alloc]; omega) ?_; intro v2 w2 hown2 hg2)
        | (go_at_call 53; refine (atom_any (Read.refl H.out.1) (by omega)).mono ?_; rintro e w1 ⟨⟨pa, px, rfl, hpa⟩, hd⟩; have O1 := Lib.hid (own_read O.out hd hg); have H1 := Lib.hid (H.out.trans hd); have KP := Lib.hid hpa; clear hd hpa))
      have H2 := Lib.hid ((H1.out.alloc (.cells #[.int .i64 pa, .string px] 75)).grownNew HN.out hg2 (fun j hj => (O1.out.lt j hj).1))
      have O2 := Lib.hid hown2
      clear O H O1 H1 hown2 hg2
      go_roundw
      case rel => exact ⟨l ++ [(pa, px)], k - 1, by go_num, by simp; omega, by have := O2.out; rw [List.length_append, folds_snoc]; exact this, Lib.hid (by intro p hp; rcases List.mem_append.1 hp with hp | hp; exact HK.out p hp; rw [List.mem_singleton.1 hp]; exact KP.out), by have := H2.out; rw [List.length_append]; exact this.mono (by simp; omega)⟩
      case measure => simp [intOf]; omega
    · have hk1 : ¬ (0 : Int) < (k : Int) := by omega
      go_wp2
      go_ret
      exact ⟨⟨_, l, rfl, O.out, by omega, HK.out⟩, HH.out.trans (H.out.mono (show B + 2 + 10 * l.length ≤ B + 100 by omega))⟩

set_option maxHeartbeats 800000 in
theorem translation_any {v : Value} {m g B : Nat} {w0 w : World} (h : Read v m g B w0 w) (hB : B ≤ 700000000) :
    Calls Try.prog 47 #[.pointer (some ⟨g, 0, none⟩)] w (DrawnS v m g (B + 100) w0 1070) := by
  have HD := Lib.hid (Read.refl h.1)
  have HH := Lib.hid h
  clear h
  go_enter Try.func47, Try.ntmps47
  go_wp2_with (first
    | (go_at_call 52; have hx := H2; refine (l5Text_w _ la _ (HR.out.keep hb2) (by omega) HZ.out).mono ?_; rintro e w3 ⟨⟨t, rfl, ht⟩, hb⟩; have H3 := Lib.hid (H2.out.onB hb); clear hb hx)
    | (go_at_call 51; have hx := H1; refine (l5List_w _ la _ HR.out (by omega) HZ.out).mono ?_; rintro e w2 ⟨⟨ba, rfl⟩, hb2⟩; have H2 := Lib.hid (H1.out.onB hb2); clear hx)
    | (go_at_call 50; refine (atoms_any HD.out (by omega)).mono ?_; rintro e w1 ⟨⟨lv, la, rfl, hown, hl, hk⟩, hd⟩; have H1 := Lib.hid hd; have HR := Lib.hid (Rows.of_own hown); have HZ := Lib.hid (fun p hp => Nat.le_trans (Pl.atomOk_prt (hk p hp)).2 (by omega) : ∀ p ∈ la, p.2.size ≤ 100); clear hd hown hk))
  all_goals go_ret
  all_goals first | exact ⟨⟨_, rfl, by decide⟩, HH.out.trans H2.out⟩ | exact ⟨⟨_, rfl, ht⟩, HH.out.trans H3.out⟩

end Go.Proofs.Ytibchndfndgdeaa
