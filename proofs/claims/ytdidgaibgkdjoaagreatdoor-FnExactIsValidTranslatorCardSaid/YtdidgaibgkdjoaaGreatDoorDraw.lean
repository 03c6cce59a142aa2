/-
  CONTRACTS: the cursor of the reference's draws: next, pick, one, of, among. What is drawn is told by bounds alone.
-/
import Derived.Test.YtdidgaibgkdjoaaGreatDoorBasS
import Derived.Test.YtdidgaibgkdjoaaGreatDoorBasB
import Derived.Deep.QuietTactic
import Derived.BigQuiet
import Derived.IntWalk
namespace Go.Proofs.YtdidgaibgkdjoaaGreatDoor
open Go.RowKit

/-- the cells of a row of bytes -/
def u8s (l : List Int) : List Value := l.map (Value.int .u8)
theorem u8s_at (l : List Int) (k : Nat) (h : k < l.length) : (u8s l)[k]? = some (.int .u8 l[k]) := by
  simp [u8s, List.getElem?_map, List.getElem?_eq_getElem h]

def isByte (x : Int) : Prop := 0 ≤ x ∧ x < 256
def allByte (l : List Int) : Prop := ∀ x ∈ l, isByte x
def thawed (w : World) (g : Nat) : Prop := ∀ i, w.frozen? ⟨g, i, none⟩ = false

/-- the cursor of a draw lies in block g: the code that it reads (m bytes), its place (at most B), its seed -/
def Cur (v : Value) (m g : Nat) (B : Nat) (w : World) : Prop :=
  (m = 0 ∨ v.ownBlock ≠ some g) ∧ (∃ l : List Int, l.length = m ∧ allByte l ∧ Rows w v m 1 (u8s l)) ∧ w.cell? ⟨g, 0, none⟩ = some v ∧ (∃ k : Nat, k ≤ B ∧ w.cell? ⟨g, 1, none⟩ = some (.int .i64 k)) ∧ (∃ z : Int, w.cell? ⟨g, 2, none⟩ = some (.int .u64 z)) ∧ thawed w g

theorem Cur.mono {v : Value} {m g B B' : Nat} {w : World} (h : Cur v m g B w) (hb : B ≤ B') : Cur v m g B' w := by
  obtain ⟨h1, h2, h3, ⟨k, h4, h5⟩, h6⟩ := h
  exact ⟨h1, h2, h3, ⟨k, Nat.le_trans h4 hb, h5⟩, h6⟩
theorem Cur.drewN {v : Value} {m g B : Nat} {w : World} (h : Cur v m g B w) (n : Nat) : Cur v m g B (w.drewN n) := h
theorem Cur.drew {v : Value} {m g B : Nat} {w : World} (h : Cur v m g B w) : Cur v m g B w.drew := h
theorem Cur.lt {v : Value} {m g B : Nat} {w : World} (h : Cur v m g B w) : g < w.heap.size := World.block_lt_of_cell? _ _ h.2.2.1
theorem Cur.keep {v : Value} {m g B : Nat} {w w' : World} (h : Cur v m g B w) (hb : Below w.heap.size w w') : Cur v m g B w' := by
  have hg := h.lt
  obtain ⟨h1, ⟨l, l1, l2, l3⟩, h3, ⟨k, h4, h5⟩, ⟨z, h6⟩, h7⟩ := h
  have c := bcell hb
  exact ⟨h1, ⟨l, l1, l2, l3.keep hb⟩, by rw [c.1 _ _ hg]; exact h3, ⟨k, h4, by rw [c.1 _ _ hg]; exact h5⟩, ⟨z, by rw [c.1 _ _ hg]; exact h6⟩, fun i => by rw [c.2 _ _ hg]; exact h7 i⟩
theorem Cur.alloc {v : Value} {m g B : Nat} {w : World} (h : Cur v m g B w) (o : Obj) : Cur v m g B (w.alloc o) := h.keep ((Below.refl _ _).alloc (Nat.le_refl _) _)

theorem grown_alloc (b : World) (o : Obj) (row : Option Nat) : b.grownBy (b.alloc o) row := by
  have hb := (Below.refl b.heap.size b).alloc (Nat.le_refl _) o
  exact ⟨rfl, rfl, rfl, by rw [World.size_alloc]; omega, fun i hi _ => hb.block i hi⟩

/-- the cursor has been read on, k places at most; nothing else was written -/
def Read (v : Value) (m g B : Nat) (w w' : World) : Prop := Cur v m g B w' ∧ w.grownBy w' (some g)
theorem Read.trans {v : Value} {m g B B' : Nat} {a b c : World} (h : Read v m g B a b) (k : Read v m g B' b c) : Read v m g B' a c := ⟨k.1, grownBy_trans h.2 k.2⟩
theorem Read.mono {v : Value} {m g B B' : Nat} {a b : World} (h : Read v m g B a b) (hb : B ≤ B') : Read v m g B' a b := ⟨h.1.mono hb, h.2⟩
theorem Read.below {v : Value} {m g B : Nat} {a b : World} (h : Read v m g B a b) (base : Nat) (hb : base ≤ g) (hz : base ≤ a.heap.size) : Below base a b :=
  (Below.refl _ _).grown h.2 hz (fun k hk => by injection hk with hk; omega)

theorem Read.refl {v : Value} {m g B : Nat} {w : World} (h : Cur v m g B w) : Read v m g B w w := ⟨h, World.grownBy.refl _ _⟩
theorem Read.alloc {v : Value} {m g B : Nat} {a b : World} (h : Read v m g B a b) (o : Obj) : Read v m g B a (b.alloc o) :=
  ⟨h.1.alloc o, grownBy_trans h.2 (grown_alloc b o (some g))⟩
theorem Read.to {v : Value} {m g B : Nat} {a b : World} (h : Read v m g B a b) (n : Nat) : Read v m g B a (b.drewN n) := ⟨h.1.drewN n, h.2.os, h.2.tape, h.2.output, h.2.size, h.2.block⟩
theorem rows_grown {w w' : World} {v : Value} {n g : Nat} {xs : List Value} (h : Rows w v n 1 xs) (hg : w.grownBy w' (some g)) (hne : n = 0 ∨ v.ownBlock ≠ some g) : Rows w' v n 1 xs := by
  rcases hne with rfl | hne
  · obtain ⟨a, cap, rfl, h2, h3, h4, h5, h6⟩ := h
    refine ⟨a, cap, rfl, h2, h3, h4, h5, fun j u hj => ?_⟩
    have : xs = [] := List.length_eq_zero_iff.1 (by simpa using h4)
    subst this; simp at hj
  · exact h.grown hg (.inr hne)

/-- the cells of the cursor's block are written -/
theorem grown_set (w : World) (g i : Nat) (u : Value) : w.grownBy (w.setCell ⟨g, i, none⟩ u) (some g) :=
  ⟨rfl, rfl, rfl, by simp [World.setCell], fun j _ hne => Below.heap_setCell _ _ _ _ (fun e => hne (by rw [e]))⟩
theorem Cur.step {v : Value} {m g B : Nat} {w : World} (h : Cur v m g B w) (k : Nat) (z : Int) (hk : k ≤ B + 1) :
    Read v m g (B + 1) w ((w.setCell ⟨g, 1, none⟩ (.int .i64 k)).setCell ⟨g, 2, none⟩ (.int .u64 z)) := by
  obtain ⟨h1, ⟨l, l1, l2, l3⟩, h3, ⟨k0, h4, h5⟩, ⟨z0, h6⟩, h7⟩ := h
  have hg := grownBy_trans (grown_set w g 1 (.int .i64 k)) (grown_set _ g 2 (.int .u64 z))
  refine ⟨⟨h1, ⟨l, l1, l2, rows_grown l3 hg h1⟩, ?_, ⟨k, hk, ?_⟩, ⟨z, ?_⟩, fun i => ?_⟩, hg⟩
  · rw [World.cell?_setCell_other _ _ _ _ (by intro h; injection h with _ h _; omega), World.cell?_setCell_other _ _ _ _ (by intro h; injection h with _ h _; omega)]; exact h3
  · rw [World.cell?_setCell_other _ _ _ _ (by intro h; injection h with _ h _; omega), World.cell?_setCell_same _ _ _ h5]
  · exact World.cell?_setCell_same _ _ _ (show (w.setCell ⟨g, 1, none⟩ (.int .i64 k)).cell? ⟨g, 2, none⟩ = some (.int .u64 z0) by rw [World.cell?_setCell_other _ _ _ _ (by intro h; injection h with _ h _; omega)]; exact h6)
  · have := h7 i
    simpa [go_sem] using this

theorem Read.drewN {v : Value} {m g B : Nat} {a b : World} (h : Read v m g B a b) (p q : Nat) : Read v m g B (a.drewN p) (b.drewN q) :=
  ⟨h.1, h.2.os, h.2.tape, h.2.output, h.2.size, h.2.block⟩
theorem Cur.step2 {v : Value} {m g B : Nat} {w : World} (h : Cur v m g B w) (k : Nat) (z : Int) (hk : k + 1 ≤ B + 1) (p q : Nat) :
    Read v m g (B + 1) w ((((w.drewN p).setCell ⟨g, 1, none⟩ (.int .i64 ((k : Int) + 1))).setCell ⟨g, 2, none⟩ (.int .u64 z)).drewN q) := by
  have h1 := (h.drewN p).step (k + 1) z hk
  exact ⟨h1.1, h1.2.os, h1.2.tape, h1.2.output, h1.2.size, h1.2.block⟩
theorem u64_bd (Z : Int) : 0 ≤ IntKind.u64.wrap Z ∧ IntKind.u64.wrap Z < 18446744073709551616 := by
  simp [IntKind.wrap, IntKind.bits, IntKind.signed]; omega
theorem low8 (Z : Int) : 0 ≤ wrap64 (bits .and .u64 (IntKind.u64.wrap Z / 1099511627776) 255) ∧ wrap64 (bits .and .u64 (IntKind.u64.wrap Z / 1099511627776) 255) < 256 := by
  have h := u64_bd Z
  generalize IntKind.u64.wrap Z = X at h ⊢
  obtain ⟨n, rfl⟩ : ∃ n : Nat, X = n := ⟨X.toNat, by omega⟩
  have e : ((n : Int) / 1099511627776) = ((n / 1099511627776 : Nat) : Int) := by omega
  rw [e, show (255 : Int) = ((255 : Nat) : Int) from rfl, bits_and_u64_nat _ _ (by omega) (by omega)]
  have hl : (n / 1099511627776) &&& 255 ≤ 255 := Nat.and_le_right
  rw [IntWalk.wrap64_in _ (by omega)]
  omega

set_option maxHeartbeats 800000 in
theorem next_any (v : Value) (m g B : Nat) (w : World) (h : Cur v m g B w) (hB : B ≤ 1073741824) :
    Calls Tryz.prog 92 #[.pointer (some ⟨g, 0, none⟩)] w fun e w' => (∃ r : Int, e = .returned (.int .i64 r) ∧ 0 ≤ r ∧ r < 256) ∧ Read v m g (B + 1) w w' := by
  have H := Lib.hid h
  obtain ⟨h1, ⟨l, rfl, l2, l3⟩, h3, ⟨k, h4, h5⟩, ⟨z, h6⟩, h7⟩ := h
  obtain ⟨a, cap, rfl, _, _, _, _, hcells⟩ := l3
  have hf1 := h7 1
  have hf2 := h7 2
  have HC := Lib.hid hcells
  have HL := Lib.hid l2
  clear h7 hcells l2 h1
  by_cases hlt : k < l.length
  · obtain ⟨b, off, rfl, hsrc⟩ := HC.out k _ (u8s_at l k hlt)
    have hy := HL.out _ (List.getElem_mem hlt)
    generalize l[k] = y at hsrc hy
    obtain ⟨hy1, hy2⟩ := hy
    go_enter Tryz.func92, Tryz.ntmps92
    go_wp2
    go_quiet (fail)
    go_wp2
    go_quiet (fail)
    go_wp2
    go_quiet (fail)
    go_wp2
    go_ret
    exact ⟨⟨_, rfl, hy1, hy2⟩, H.out.step2 k _ (by omega) _ _⟩
  · go_enter Tryz.func92, Tryz.ntmps92
    go_wp2
    go_quiet (fail)
    go_wp2
    go_quiet (fail)
    go_wp2
    go_ret
    have hl8 := low8 (IntKind.u64.wrap (IntKind.u64.wrap (z * 6364136223846793005)) + 882882)
    exact ⟨⟨_, rfl, hl8.1, hl8.2⟩, H.out.step2 k _ (by omega) _ _⟩

/-- what a draw of n leaves: a number below n -/
def Drawn (v : Value) (m g B : Nat) (w : World) (hi : Nat) (e : Ending) (w' : World) : Prop := (∃ r : Nat, e = .returned (.int .i64 r) ∧ r < hi) ∧ Read v m g B w w'
/-- what a draw of a text leaves: a text of at most hi bytes -/
def DrawnS (v : Value) (m g B : Nat) (w : World) (hi : Nat) (e : Ending) (w' : World) : Prop := (∃ s : ByteArray, e = .returned (.string s) ∧ s.size ≤ hi) ∧ Read v m g B w w'
/-- .. a yes or no -/
def DrawnB (v : Value) (m g B : Nat) (w : World) (e : Ending) (w' : World) : Prop := (∃ b : Bool, e = .returned (.bool b)) ∧ Read v m g B w w'

theorem next_from {v : Value} {m g B : Nat} {w0 w : World} (h : Read v m g B w0 w) (hB : B ≤ 1073741824) :
    Calls Tryz.prog 92 #[.pointer (some ⟨g, 0, none⟩)] w (Drawn v m g (B + 1) w0 256) :=
  (next_any v m g B w h.1 hB).mono fun e w' ⟨⟨r, h1, h2, h3⟩, h4⟩ => ⟨⟨r.toNat, by rw [h1, Int.toNat_of_nonneg h2], by omega⟩, h.trans h4⟩

theorem ret_rem {x : Int} (n : Nat) (h0 : 0 ≤ x) (hn : 1 ≤ n) : ∃ r : Nat, Ending.returned (.int .i64 (x % (n : Int))) = .returned (.int .i64 r) ∧ r < n := by
  obtain ⟨y, rfl⟩ : ∃ y : Nat, x = y := ⟨x.toNat, by omega⟩
  exact ⟨y % n, by rw [Int.natCast_emod], Nat.mod_lt _ (by omega)⟩

set_option maxHeartbeats 800000 in
theorem pick_any {v : Value} {m g B : Nat} {w0 w : World} (n : Nat) (h : Read v m g B w0 w) (hB : B ≤ 1000000000) (h1 : 1 ≤ n) (h2 : n ≤ 60000) :
    Calls Tryz.prog 45 #[.pointer (some ⟨g, 0, none⟩), .int .i64 n] w (Drawn v m g (B + 2) w0 n) := by
  have HD := Lib.hid h; clear h
  by_cases hn : n ≤ 1
  · go_enter Tryz.func45, Tryz.ntmps45
    go_wp2
    go_ret
    exact ⟨⟨0, rfl, by omega⟩, HD.out.mono (by omega)⟩
  · by_cases hb : 200 < n
    · go_enter Tryz.func45, Tryz.ntmps45
      go_wp2_with ((go_at_call 92; refine (next_from (by repeat (first | with_reducible exact HD.out | with_reducible apply Read.alloc | with_reducible apply Read.to)) (by omega)).mono ?_; rintro e w' ⟨⟨ra, rfl, hra⟩, hd⟩; replace HD := Lib.hid hd; clear hd))
      go_ret
      exact ⟨ret_rem n (by omega) h1, HD.out.mono (by omega)⟩
    · go_enter Tryz.func45, Tryz.ntmps45
      go_wp2_with ((go_at_call 92; refine (next_from (by repeat (first | with_reducible exact HD.out | with_reducible apply Read.alloc | with_reducible apply Read.to)) (by omega)).mono ?_; rintro e w' ⟨⟨ra, rfl, hra⟩, hd⟩; replace HD := Lib.hid hd; clear hd))
      go_ret
      exact ⟨ret_rem n (by omega) h1, HD.out.mono (by omega)⟩

set_option maxHeartbeats 800000 in
theorem one_any {v : Value} {m g B : Nat} {w0 w : World} (n : Nat) (h : Read v m g B w0 w) (hB : B ≤ 1000000000) (h1 : 1 ≤ n) (h2 : n ≤ 60000) :
    Calls Tryz.prog 44 #[.pointer (some ⟨g, 0, none⟩), .int .i64 n] w (DrawnB v m g (B + 2) w0) := by
  have HD := Lib.hid h; clear h
  go_enter Tryz.func44, Tryz.ntmps44
  go_wp2_with ((go_at_call 45; refine (pick_any n (by repeat (first | with_reducible exact HD.out | with_reducible apply Read.alloc | with_reducible apply Read.to)) (by omega) h1 h2).mono ?_; rintro e w' ⟨⟨ra, rfl, hra⟩, hd⟩; replace HD := Lib.hid hd; clear hd))
  go_ret
  exact ⟨⟨_, rfl⟩, HD.out⟩

set_option maxHeartbeats 800000 in
theorem of_any {v : Value} {m g B : Nat} {w0 w : World} (lv : Value) (l : List ByteArray) (hi : Nat) (hr : Rows w lv l.length 1 (strs l)) (hne : lv.ownBlock ≠ some g) (h1 : 1 ≤ l.length) (h2 : l.length ≤ 60000) (hk : ∀ s ∈ l, s.size ≤ hi) (h : Read v m g B w0 w) (hB : B ≤ 1000000000) :
    Calls Tryz.prog 90 #[.pointer (some ⟨g, 0, none⟩), lv] w (DrawnS v m g (B + 2) w0 hi) := by
  have HD := Lib.hid (Read.refl h.1)
  have HR := Lib.hid hr
  have HK := Lib.hid hk
  obtain ⟨a, cap, rfl, _, _, _, _, _⟩ := hr
  clear hk
  go_enter Tryz.func90, Tryz.ntmps90
  go_wp2_with (go_at_call 45; refine (pick_any l.length HD.out (by omega) h1 h2).mono ?_; rintro e w' ⟨⟨ra, rfl, hra⟩, hd⟩; replace HD := Lib.hid hd; clear hd; obtain ⟨a', cap', hv, _, _, _, _, hcells⟩ := rows_grown HR.out HD.out.2 (Or.inr hne); injection hv with ha' _ hc'; subst ha'; obtain ⟨b, off, rfl, hsrc⟩ := hcells ra _ (strs_at l ra hra); clear hcells)
  go_ret
  exact ⟨⟨_, rfl, HK.out _ (List.getElem_mem hra)⟩, h.trans HD.out⟩

/-- a literal list, laid at the call -/
theorem of_lit {v : Value} {m g B : Nat} {w0 w : World} (l : List ByteArray) (hi : Nat) (h : Read v m g B w0 w) (hB : B ≤ 1000000000) (h1 : 1 ≤ l.length) (h2 : l.length ≤ 60000) (hk : ∀ s ∈ l, s.size ≤ hi) (E : TypeId) :
    Calls Tryz.prog 90 #[.pointer (some ⟨g, 0, none⟩), .slice (some ⟨w.heap.size, 0, none⟩) l.length l.length] (w.alloc (.cells (strs l).toArray E)) (DrawnS v m g (B + 2) w0 hi) :=
  of_any _ l hi (rows_newS w l E (by omega)) (by have := h.1.lt; intro e; injection e with e; have e2 : w.heap.size = g := e; omega) h1 h2 hk (h.alloc _) hB

/-- .. of numbers -/
def DrawnI (v : Value) (m g B : Nat) (w : World) (p : Int → Prop) (e : Ending) (w' : World) : Prop := (∃ r : Int, e = .returned (.int .i64 r) ∧ p r) ∧ Read v m g B w w'

set_option maxHeartbeats 800000 in
theorem among_any {v : Value} {m g B : Nat} {w0 w : World} (lv : Value) (l : List Int) (p : Int → Prop) (hr : Rows w lv l.length 1 (ints l)) (hne : lv.ownBlock ≠ some g) (h1 : 1 ≤ l.length) (h2 : l.length ≤ 60000) (hk : ∀ s ∈ l, p s) (h : Read v m g B w0 w) (hB : B ≤ 1000000000) :
    Calls Tryz.prog 111 #[.pointer (some ⟨g, 0, none⟩), lv] w (DrawnI v m g (B + 2) w0 p) := by
  have HD := Lib.hid (Read.refl h.1)
  have HR := Lib.hid hr
  have HK := Lib.hid hk
  obtain ⟨a, cap, rfl, _, _, _, _, _⟩ := hr
  clear hk
  go_enter Tryz.func111, Tryz.ntmps111
  go_wp2_with (go_at_call 45; refine (pick_any l.length HD.out (by omega) h1 h2).mono ?_; rintro e w' ⟨⟨ra, rfl, hra⟩, hd⟩; replace HD := Lib.hid hd; clear hd; obtain ⟨a', cap', hv, _, _, _, _, hcells⟩ := rows_grown HR.out HD.out.2 (Or.inr hne); injection hv with ha' _ hc'; subst ha'; obtain ⟨b, off, rfl, hsrc⟩ := hcells ra _ (ints_at l ra hra); clear hcells)
  go_ret
  exact ⟨⟨_, rfl, HK.out _ (List.getElem_mem hra)⟩, h.trans HD.out⟩

theorem rows_newI (w : World) (l : List Int) (E : TypeId) (h : l.length ≤ 1048576) : Rows (w.alloc (.cells (ints l).toArray E)) (.slice (some ⟨w.heap.size, 0, none⟩) l.length l.length) l.length 1 (ints l) := by
  refine ⟨_, _, rfl, Nat.le_refl _, by unfold maxLen; omega, by rw [ints_length, Nat.mul_one], (fun h => nomatch h), fun j u hj => ⟨w.heap.size, 0, rfl, ?_⟩⟩
  rw [Nat.zero_add, World.cell?_alloc_mark]
  simpa using hj
theorem among_lit {v : Value} {m g B : Nat} {w0 w : World} (l : List Int) (p : Int → Prop) (h : Read v m g B w0 w) (hB : B ≤ 1000000000) (h1 : 1 ≤ l.length) (h2 : l.length ≤ 60000) (hk : ∀ s ∈ l, p s) (E : TypeId) :
    Calls Tryz.prog 111 #[.pointer (some ⟨g, 0, none⟩), .slice (some ⟨w.heap.size, 0, none⟩) l.length l.length] (w.alloc (.cells (ints l).toArray E)) (DrawnI v m g (B + 2) w0 p) :=
  among_any _ l p (rows_newI w l E (by omega)) (by have := h.1.lt; intro e; injection e with e; have e2 : w.heap.size = g := e; omega) h1 h2 hk (h.alloc _) hB

/-- the cursor of a new draw -/
theorem Cur.new {v : Value} {m : Nat} {l : List Int} {w : World} (hl : l.length = m) (hb : allByte l) (hr : Rows w v m 1 (u8s l)) (T : TypeId) :
    Cur v m w.heap.size 0 (w.alloc (.cells #[v, .int .i64 0, .int .u64 0] T)) := by
  refine ⟨?_, ⟨l, hl, hb, hr.keep ((Below.refl _ _).alloc (Nat.le_refl _) _)⟩, ?_, ⟨0, Nat.le_refl _, ?_⟩, ⟨0, ?_⟩, fun i => ?_⟩
  · rcases Nat.eq_zero_or_pos m with h0 | h0
    · exact .inl h0
    · refine .inr fun e => ?_
      have := hr.lt (by intro e; rw [u8s, List.map_eq_nil_iff] at e; subst e; simp at hl; omega) _ e
      omega
  · rw [World.cell?_alloc_mark]; rfl
  · rw [World.cell?_alloc_mark]; rfl
  · rw [World.cell?_alloc_mark]; rfl
  · simp [go_sem]

/-- one call behind another -/
theorem below_on {a b c : World} (h : Below a.heap.size a b) (k : Below b.heap.size b c) : Below a.heap.size a c := h.trans (k.mono h.size)

/-- the code of a law: a row of bytes -/
def Code8 (w : World) (v : Value) : Prop := ∃ l : List Int, allByte l ∧ Rows w v l.length 1 (u8s l)
theorem Code8.keep {w w' : World} {v : Value} (h : Code8 w v) (hb : Below w.heap.size w w') : Code8 w' v := by
  obtain ⟨l, h1, h2⟩ := h
  exact ⟨l, h1, h2.keep hb⟩

end Go.Proofs.YtdidgaibgkdjoaaGreatDoor
