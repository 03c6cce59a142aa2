/-
  PLAIN: a world in which blocks of one interval alone were written; what lies elsewhere is kept.
  CONTRACTS: the laws' own markText, markFoldS, heldFoldS.
  CONTRACTS: the laws' own marks in a dictionary and in a slice of pieces.
  PLAIN: a slice of the call's own whose elements hold slices of integers of the call's own.
-/
import Derived.Test.YtdidgaibgkdjoaaGreatDoorBasB
import Derived.Test.YtdidgaibgkdjoaaGreatDoorBasA
namespace Go.Proofs.YtdidgaibgkdjoaaGreatDoor
open Go.RowKit

/-- of the old blocks those from lo up to hi alone may have been written -/
structure Wid (lo hi : Nat) (w w' : World) : Prop where
  os : w'.os = w.os
  tape : w'.tape = w.tape
  output : w'.output = w.output
  size : w.heap.size ≤ w'.heap.size
  block : ∀ k, k < w.heap.size → (k < lo ∨ hi ≤ k) → w'.heap[k]? = w.heap[k]?

theorem Wid.refl (lo hi : Nat) (w : World) : Wid lo hi w w := ⟨rfl, rfl, rfl, Nat.le_refl _, fun _ _ _ => rfl⟩
theorem Wid.trans {lo hi : Nat} {a b c : World} (h : Wid lo hi a b) (k : Wid lo hi b c) : Wid lo hi a c :=
  ⟨k.os.trans h.os, k.tape.trans h.tape, k.output.trans h.output, Nat.le_trans h.size k.size, fun i hi' hne => (k.block i (Nat.lt_of_lt_of_le hi' h.size) hne).trans (h.block i hi' hne)⟩
theorem Wid.of_below {w w' : World} (lo hi : Nat) (h : Below w.heap.size w w') : Wid lo hi w w' := ⟨h.os, h.tape, h.output, h.size, fun k hk _ => h.block k hk⟩
theorem Wid.of_grown {lo hi : Nat} {w w' : World} {row : Option Nat} (h : w.grownBy w' row) (hr : ∀ g, row = some g → lo ≤ g ∧ g < hi) : Wid lo hi w w' :=
  ⟨h.os, h.tape, h.output, h.size, fun k hk hne => h.block k hk (fun e => by have := hr k e.symm; omega)⟩
theorem Wid.wider {lo hi lo' hi' : Nat} {w w' : World} (h : Wid lo hi w w') (h1 : lo' ≤ lo) (h2 : hi ≤ hi') : Wid lo' hi' w w' :=
  ⟨h.os, h.tape, h.output, h.size, fun k hk hne => h.block k hk (by omega)⟩
theorem Wid.below {lo hi B : Nat} {w w' : World} (h : Wid lo hi w w') (hB : B ≤ lo) (hw : B ≤ w.heap.size) : Below B w w' :=
  ⟨h.os, h.tape, h.output, h.size, fun k hk => h.block k (Nat.lt_of_lt_of_le hk hw) (.inl (Nat.lt_of_lt_of_le hk hB))⟩
theorem Wid.cell {lo hi b o : Nat} {w w' : World} {u : Value} (h : Wid lo hi w w') (hc : w.cell? ⟨b, o, none⟩ = some u) (hd : b < lo ∨ hi ≤ b) : w'.cell? ⟨b, o, none⟩ = some u := by
  rw [World.cell?_of_block (w := w) (a := ⟨b, o, none⟩) (h.block b (World.block_lt_of_cell? _ _ hc) hd)]; exact hc

theorem own_wid {lo hi : Nat} {w w' : World} {base : Nat} {e : TypeId} {size : Nat} {v : Value} {n : Nat} {xs : List Value} (h : w.ownsRow base e size v n xs) (hw : Wid lo hi w w') (hd : ∀ g, v.ownBlock = some g → g < lo ∨ hi ≤ g) : w'.ownsRow base e size v n xs := by
  obtain ⟨hl, h⟩ := h
  refine ⟨hl, ?_⟩
  rcases h with h | ⟨g, cap, cur, rfl, h2, hg, h3⟩
  · exact .inl h
  · have hlt : g < w.heap.size := by
      rcases Nat.lt_or_ge g w.heap.size with h' | h'
      · exact h'
      · rw [Array.getElem?_eq_none h'] at hg; cases hg
    exact .inr ⟨g, cap, cur, rfl, h2, by rw [hw.block g hlt (hd g rfl)]; exact hg, h3⟩

/-- a row of the call's own, between two blocks -/
def OwnRow (E : TypeId) (size : Nat) (w : World) (lo hi : Nat) (v : Value) (n : Nat) (xs : List Value) : Prop :=
  w.ownsRow lo E size v n xs ∧ (∀ g, v.ownBlock = some g → g < hi) ∧ hi ≤ w.heap.size
theorem OwnRow.of {E : TypeId} {size : Nat} {w : World} {lo : Nat} {v : Value} {n : Nat} {xs : List Value} (h : w.ownsRow lo E size v n xs) : OwnRow E size w lo w.heap.size v n xs := ⟨h, fun g hg => (h.lt g hg).2, Nat.le_refl _⟩
theorem OwnRow.keep {E : TypeId} {size : Nat} {w w' : World} {lo hi : Nat} {v : Value} {n : Nat} {xs : List Value} (h : OwnRow E size w lo hi v n xs) (hb : Below w.heap.size w w') : OwnRow E size w' lo hi v n xs :=
  ⟨own_keep h.1 hb, h.2.1, Nat.le_trans h.2.2 hb.size⟩
theorem OwnRow.wid {E : TypeId} {size : Nat} {w w' : World} {lo hi a b : Nat} {v : Value} {n : Nat} {xs : List Value} (h : OwnRow E size w lo hi v n xs) (hw : Wid a b w w') (hd : hi ≤ a ∨ b ≤ lo) : OwnRow E size w' lo hi v n xs :=
  ⟨own_wid h.1 hw (fun g hg => by have := h.2.1 g hg; have := (h.1.lt g hg).1; omega), h.2.1, Nat.le_trans h.2.2 hw.size⟩
theorem OwnRow.rows {E : TypeId} {size : Nat} {w : World} {lo hi : Nat} {v : Value} {n : Nat} {xs : List Value} (h : OwnRow E size w lo hi v n xs) : Rows w v n size xs := Rows.of_own h.1
theorem OwnRow.drew {E : TypeId} {size : Nat} {w : World} {lo hi : Nat} {v : Value} {n : Nat} {xs : List Value} (h : OwnRow E size w lo hi v n xs) : OwnRow E size w.drew lo hi v n xs := h
/-- what was written in such a row was written between its two blocks -/
theorem OwnRow.wrote {E : TypeId} {size : Nat} {w w' : World} {lo hi : Nat} {v : Value} {n : Nat} {xs ys : List Value} (h : OwnRow E size w lo hi v n xs) (hw : Wrote E size lo w v n ys w') : OwnRow E size w' lo hi v n ys ∧ Wid lo hi w w' :=
  ⟨⟨hw.1, h.2.1, Nat.le_trans h.2.2 hw.2.size⟩, Wid.of_grown hw.2 (fun g hg => ⟨(h.1.lt g hg).1, h.2.1 g hg⟩)⟩

theorem OwnRow.grown {E : TypeId} {size : Nat} {w w' : World} {lo hi : Nat} {v : Value} {n : Nat} {xs : List Value} {row : Option Nat} (h : OwnRow E size w lo hi v n xs) (hg : w.grownBy w' row) (hd : ∀ g, v.ownBlock = some g → row ≠ some g) : OwnRow E size w' lo hi v n xs := by
  refine ⟨h.1.kept hg ?_, h.2.1, Nat.le_trans h.2.2 hg.size⟩
  cases hv : v.ownBlock with
  | none => exact .inl rfl
  | some g => exact .inr (fun e => hd g hv e.symm)

theorem OwnEnts.wid {w w' : World} {lo hi a b : Nat} {v : Value} {l : List Ent} (h : OwnEnts w lo v l hi) (hw : Wid a b w w') (hd : hi ≤ a ∨ b ≤ lo) : OwnEnts w' lo v l hi := by
  obtain ⟨g, xs, c, rfl, h2, h3, h4, h5, h6, h7, h8⟩ := h
  have hmono : ∀ j, j ≤ l.length → c 0 ≤ c j := by
    intro j
    induction j with
    | zero => intro _; exact Nat.le_refl _
    | succ j ih => intro hj; exact Nat.le_trans (ih (by omega)) (h4 j (by omega))
  have hup : ∀ j, j ≤ l.length → c (l.length - j) ≤ c l.length := by
    intro j
    induction j with
    | zero => intro _; exact Nat.le_refl _
    | succ j ih =>
      intro hj
      have h := h4 (l.length - (j + 1)) (by omega)
      rw [show l.length - (j + 1) + 1 = l.length - j by omega] at h
      exact Nat.le_trans h (ih (by omega))
  have hg : g < hi := by have := hmono l.length (Nat.le_refl _); omega
  refine ⟨g, xs, c, rfl, own_wid h2 hw (fun k hk => by have hk' : g = k := Option.some.inj hk; omega), fun j hj hk => ?_, h4, h5, h6, h7, Nat.le_trans h8 hw.size⟩
  obtain ⟨u, e1, e2, e3, e4⟩ := h3 j hj hk
  refine ⟨u, e1, e2, own_wid e3 hw (fun k hk => ?_), e4⟩
  have h9 := e4 k hk
  have h10 := (e3.lt k hk).1
  have h11 := hmono j (by omega)
  have h12 := hup (l.length - (j + 1)) (by omega)
  rw [show l.length - (l.length - (j + 1)) = j + 1 by omega] at h12
  omega
theorem OwnEnts.drew {w : World} {lo hi : Nat} {v : Value} {l : List Ent} (h : OwnEnts w lo v l hi) : OwnEnts w.drew lo v l hi := h

theorem max_block {w : World} (h : ∃ m, w.cell? ⟨0, 0, none⟩ = some (.int .i64 m)) : 0 < w.heap.size := by
  obtain ⟨m, h⟩ := h
  exact World.block_lt_of_cell? _ _ h

theorem max_wid {lo hi : Nat} {w w' : World} (h : ∃ m, w.cell? ⟨0, 0, none⟩ = some (.int .i64 m)) (hw : Wid lo hi w w') (hd : 0 < lo) : ∃ m, w'.cell? ⟨0, 0, none⟩ = some (.int .i64 m) := by
  obtain ⟨m, h⟩ := h
  exact ⟨m, hw.cell h (.inl hd)⟩

end Go.Proofs.YtdidgaibgkdjoaaGreatDoor

namespace Go.Proofs.YtdidgaibgkdjoaaGreatDoor
open Go.RowKit

/-- the digits of n ahead of some bytes -/
def Pl.dec (n : Nat) (acc : List UInt8) : List UInt8 := if h : n = 0 then acc else Pl.dec (n / 10) (UInt8.ofNat (48 + n % 10) :: acc)
termination_by n
decreasing_by omega
theorem Pl.dec_zero (acc : List UInt8) : Pl.dec 0 acc = acc := by rw [Pl.dec]; rfl
theorem Pl.dec_step {n : Nat} (h : n ≠ 0) (acc : List UInt8) : Pl.dec n acc = Pl.dec (n / 10) (UInt8.ofNat (48 + n % 10) :: acc) := by rw [Pl.dec, dif_neg h]
def Pl.markT (k : Int) : ByteArray := if k ≤ 0 then ⟨#[109, 48]⟩ else ⟨#[109]⟩ ++ ⟨(Pl.dec k.toNat []).toArray⟩
theorem ba_cons (c : UInt8) (acc : List UInt8) : (⟨#[c]⟩ : ByteArray) ++ ⟨acc.toArray⟩ = ⟨(c :: acc).toArray⟩ := by
  apply Pl.ba_ext
  simp

theorem one_digit (w : World) (n : Nat) :
    (convert 22 9 (.slice (some ⟨w.heap.size, 0, none⟩) 1 1)).run Tryz.prog (w.alloc (.cells #[.int .u8 (48 + (n : Int) % 10)] 5)) = .ok (.string ⟨#[UInt8.ofNat (48 + n % 10)]⟩) (w.alloc (.cells #[.int .u8 (48 + (n : Int) % 10)] 5)) := by
  have hc : ((UInt8.ofNat (48 + n % 10)).toNat : Int) = 48 + (n : Int) % 10 := by
    simp only [UInt8.toNat_ofNat']
    omega
  exact run_convert_bytes_back (P := Tryz.prog) _ 22 9 5 ⟨w.heap.size, 0, none⟩ 1 [UInt8.ofNat (48 + n % 10)] Tryz.underlying22 Tryz.underlying5 Tryz.underlying9 (fun j hj => by
    have hj0 : j = 0 := by simpa using hj
    subst hj0
    rw [Addr.add_lit, Nat.zero_add, World.cell?_alloc_mark]
    show some (Value.int .u8 (48 + (n : Int) % 10)) = some (.int .u8 ((UInt8.ofNat (48 + n % 10)).toNat : Int))
    rw [hc])

set_option maxRecDepth 20000 in
set_option maxHeartbeats 800000 in
theorem markText_any (k : Int) (w : World) (h0 : 0 ≤ k) (h1 : k ≤ 1000000000000) :
    Calls Tryz.prog 150 #[.int .i64 k] w fun e w' => e = .returned (.string (Pl.markT k)) ∧ Below w.heap.size w w' := by
  by_cases hk : k ≤ 0
  · have E := Lib.hid (show Pl.markT k = ⟨#[109, 48]⟩ from if_pos hk)
    go_enter Tryz.func150, Tryz.ntmps150
    go_wp2
    go_ret
    exact ⟨ret_str E.out.symm, Below.refl _ _⟩
  · have E := Lib.hid (show Pl.markT k = ⟨#[109]⟩ ++ ⟨(Pl.dec k.toNat []).toArray⟩ from if_neg hk)
    go_enter Tryz.func150, Tryz.ntmps150
    go_wp2
    go_loopw [0, 3] (fun q o wr => ∃ (n : Nat) (acc : List UInt8), q = .int .i64 n ∧ o = .string ⟨acc.toArray⟩ ∧ (acc.length : Int) + (n : Int) ≤ k ∧ Hid (Pl.dec n acc = Pl.dec k.toNat []) ∧ Below w.heap.size w wr) (fun q _ _ => (intOf q).toNat)
    case atStart => exact ⟨k.toNat, [], by rw [Int.toNat_of_nonneg h0], rfl, by simp; omega, Lib.hid rfl, Below.refl _ _⟩
    case round =>
      obtain ⟨n, acc, rfl, rfl, hnk, HD, hb⟩ := hrel
      have HB := Lib.hid hb; clear hb
      by_cases hn : n = 0
      · have hF := Lib.hid ((Pl.dec_zero acc).symm.trans (hn ▸ HD.out))
        have hn0 : ¬ (0 : Int) < (n : Int) := by omega
        clear HD
        go_wp2
        go_ret
        exact ⟨ret_str (by rw [E.out, hF.out]), HB.out⟩
      · have HD2 := Lib.hid ((Pl.dec_step hn acc).symm.trans HD.out)
        have hcv := one_digit wr n
        have hsz : (⟨acc.toArray⟩ : ByteArray).size = acc.length := List.size_toArray
        have hnp : (0 : Int) < (n : Int) := by omega
        have HC := Lib.hid (ba_cons (UInt8.ofNat (48 + n % 10)) acc)
        clear HD
        go_wp2
        go_roundw
        case rel => exact ⟨n / 10, UInt8.ofNat (48 + n % 10) :: acc, by go_num, congrArg Value.string (Eq.trans (by simp) HC.out), by simp only [List.length_cons]; omega, HD2, HB.out.alloc HB.out.size _⟩
        case measure => simp [intOf]; omega

/-- the cells of n marks -/
def marksF (k0 : Int) (n : Nat) : List (Int × ByteArray) := (List.range n).map fun (i : Nat) => (k0 + 2 * (i : Int), Pl.markT (k0 + 2 * (i : Int) + 1))
theorem marksF_length (k0 : Int) (n : Nat) : (marksF k0 n).length = n := by simp [marksF]
theorem marksF_at (k0 : Int) (n i : Nat) (h : i < (marksF k0 n).length) : (marksF k0 n)[i] = (k0 + 2 * (i : Int), Pl.markT (k0 + 2 * (i : Int) + 1)) := by simp [marksF]
theorem below_grown {w w' : World} (h : Below w.heap.size w w') (row : Option Nat) : w.grownBy w' row := ⟨h.os, h.tape, h.output, h.size, fun i hi _ => h.block i hi⟩

end Go.Proofs.YtdidgaibgkdjoaaGreatDoor

namespace Go.Proofs.YtdidgaibgkdjoaaGreatDoor
open Go.RowKit

theorem pow_step {n a : Nat} (h : n < 10 ^ (20 - a)) (ha : a < 20) : n / 10 < 10 ^ (20 - (a + 1)) := by
  apply Nat.div_lt_of_lt_mul
  rw [Nat.mul_comm, ← Nat.pow_succ, show Nat.succ (20 - (a + 1)) = 20 - a by omega]
  exact h
theorem pow_end {n a : Nat} (h : n < 10 ^ (20 - a)) (hn : n ≠ 0) : a < 20 := by
  rcases Nat.lt_or_ge a 20 with h' | h'
  · exact h'
  · rw [show 20 - a = 0 by omega] at h
    simp at h
    exact absurd h hn

set_option maxRecDepth 20000 in
set_option maxHeartbeats 800000 in
theorem markText_big (k : Int) (w : World) (h0 : 0 ≤ k) (h1 : k ≤ 4000000000000000000) :
    Calls Tryz.prog 150 #[.int .i64 k] w fun e w' => e = .returned (.string (Pl.markT k)) ∧ Below w.heap.size w w' := by
  by_cases hk : k ≤ 0
  · have E := Lib.hid (show Pl.markT k = ⟨#[109, 48]⟩ from if_pos hk)
    go_enter Tryz.func150, Tryz.ntmps150
    go_wp2
    go_ret
    exact ⟨ret_str E.out.symm, Below.refl _ _⟩
  · have E := Lib.hid (show Pl.markT k = ⟨#[109]⟩ ++ ⟨(Pl.dec k.toNat []).toArray⟩ from if_neg hk)
    have HK := Lib.hid (show k.toNat < 10 ^ (20 - ([] : List UInt8).length) from Nat.lt_of_lt_of_le (show k.toNat < 10000000000000000000 by omega) (by decide))
    go_enter Tryz.func150, Tryz.ntmps150
    go_wp2
    go_loopw [0, 3] (fun q o wr => ∃ (n : Nat) (acc : List UInt8), q = .int .i64 n ∧ o = .string ⟨acc.toArray⟩ ∧ acc.length ≤ 20 ∧ (n : Int) ≤ k ∧ Hid (n < 10 ^ (20 - acc.length)) ∧ Hid (Pl.dec n acc = Pl.dec k.toNat []) ∧ Below w.heap.size w wr) (fun q _ _ => (intOf q).toNat)
    case atStart => exact ⟨k.toNat, [], by rw [Int.toNat_of_nonneg h0], rfl, by simp, by omega, HK, Lib.hid rfl, Below.refl _ _⟩
    case round =>
      obtain ⟨n, acc, rfl, rfl, hal, hnk, HP, HD, hb⟩ := hrel
      have HB := Lib.hid hb; clear hb
      have hsz : (⟨acc.toArray⟩ : ByteArray).size = acc.length := List.size_toArray
      by_cases hn : n = 0
      · have hF := Lib.hid ((Pl.dec_zero acc).symm.trans (hn ▸ HD.out))
        have hn0 : ¬ (0 : Int) < (n : Int) := by omega
        clear HD HP
        go_wp2
        go_ret
        exact ⟨ret_str (by rw [E.out, hF.out]), HB.out⟩
      · have HD2 := Lib.hid ((Pl.dec_step hn acc).symm.trans HD.out)
        have hcv := one_digit wr n
        have hnp : (0 : Int) < (n : Int) := by omega
        have HC := Lib.hid (ba_cons (UInt8.ofNat (48 + n % 10)) acc)
        have h20 := pow_end HP.out hn
        have HP2 := Lib.hid (pow_step HP.out h20)
        clear HD HP
        go_wp2
        go_roundw
        case rel => exact ⟨n / 10, UInt8.ofNat (48 + n % 10) :: acc, by go_num, congrArg Value.string (Eq.trans (by simp) HC.out), by simp only [List.length_cons]; omega, by omega, HP2, HD2, HB.out.alloc HB.out.size _⟩
        case measure => simp [intOf]; omega

/-- what is left of the entries from the k-th on: their outlines still lie where they lay -/
def EntFrom (w : World) (c : Nat → Nat) (xs : List Value) (l : List Ent) (k : Nat) : Prop :=
  ∀ (j : Nat) (h : j < l.length), k ≤ j → ∃ u, xs[j * 2]? = some u ∧ w.ownsRow (c j) 3 1 u (l[j]).1.length (ints (l[j]).1) ∧ (∀ b, u.ownBlock = some b → b < c (j + 1))
theorem EntFrom.keep {w w' : World} {c : Nat → Nat} {xs : List Value} {l : List Ent} {k : Nat} (h : EntFrom w c xs l k) (hb : Below w.heap.size w w') : EntFrom w' c xs l k := by
  intro j hj hk
  obtain ⟨u, e1, e3, e4⟩ := h j hj hk
  exact ⟨u, e1, own_keep e3 hb, e4⟩
/-- what happens below the next entry's interval does not touch what is left -/
theorem EntFrom.next {w w' : World} {c : Nat → Nat} {xs ys : List Value} {l : List Ent} {k lo : Nat} (h : EntFrom w c xs l k) (hc : ∀ j, j < l.length → c j ≤ c (j + 1)) (_hk : k < l.length) (hw : Wid lo (c (k + 1)) w w') (hy : ∀ j, k < j → ys[j * 2]? = xs[j * 2]?) : EntFrom w' c ys l (k + 1) := by
  have hmono : ∀ d, k + 1 + d ≤ l.length → c (k + 1) ≤ c (k + 1 + d) := by
    intro d
    induction d with
    | zero => intro _; exact Nat.le_refl _
    | succ d ih => intro hd; exact Nat.le_trans (ih (by omega)) (hc (k + 1 + d) (by omega))
  intro j hj hkj
  obtain ⟨u, e1, e3, e4⟩ := h j hj (by omega)
  refine ⟨u, by rw [hy j (by omega)]; exact e1, own_wid e3 hw (fun g hg => ?_), e4⟩
  have h1 := (e3.lt g hg).1
  have h2 := hmono (j - (k + 1)) (by omega)
  rw [show k + 1 + (j - (k + 1)) = j by omega] at h2
  omega

theorem even_set (xs : List Value) (k : Nat) (u : Value) : ∀ j, k < j → (xs.set (k * 2 + 1) u)[j * 2]? = xs[j * 2]? := by
  intro j hj
  rw [List.getElem?_set_ne (by omega)]

set_option maxRecDepth 20000 in
set_option maxHeartbeats 3200000 in
theorem markEntryS_any (v : Value) (l : List Ent) (lo hi : Nat) (k0 : Int) (w : World) (hr : OwnEnts w lo v l hi) (hf : EntsFit l) (h0 : 0 ≤ k0) (h1 : k0 ≤ 2000000000000000000) :
    Calls Tryz.prog 108 #[v, .int .i64 k0] w fun e w' => (∃ r : Int, e = .returned (.int .i64 r) ∧ k0 ≤ r ∧ r ≤ k0 + 1099513724928) ∧ Wid lo hi w w' := by
  obtain ⟨g, xs, c, rfl, h2, h3, h4, h5, h6, h7, h8⟩ := hr
  have hmono : ∀ j, j ≤ l.length → c 0 ≤ c j := by
    intro j
    induction j with
    | zero => intro _; exact Nat.le_refl _
    | succ j ih => intro hj; exact Nat.le_trans (ih (by omega)) (h4 j (by omega))
  have hup : ∀ j, j ≤ l.length → c j ≤ hi := by
    have : ∀ d, d ≤ l.length → c (l.length - d) ≤ c l.length := by
      intro d
      induction d with
      | zero => intro _; exact Nat.le_refl _
      | succ d ih =>
        intro hj
        have h := h4 (l.length - (d + 1)) (by omega)
        rw [show l.length - (d + 1) + 1 = l.length - d by omega] at h
        exact Nat.le_trans h (ih (by omega))
    intro j hj
    have h9 := this (l.length - j) (by omega)
    rw [show l.length - (l.length - j) = j by omega] at h9
    omega
  have HF := Lib.hid hf.2
  have hl := hf.1
  have HC := Lib.hid h4
  have HM := Lib.hid hmono
  have HU := Lib.hid hup
  have HG := Lib.hid h5
  have HL := Lib.hid h6
  have HO := Lib.hid h2
  have HE := Lib.hid (show EntFrom w c xs l 0 from fun j hj _ => by obtain ⟨u, e1, e2, e3, e4⟩ := h3 j hj hj; exact ⟨u, e1, e3, e4⟩)
  clear hf h2 h3 h4 h5 h6 h7 h8 hmono hup
  go_enter Tryz.func108, Tryz.ntmps108
  go_wp2
  go_loopw [1, 5] (fun q i wr => ∃ (k : Nat) (m : Int) (ys : List Value), k ≤ l.length ∧ i = .int .i64 k ∧ q = .int .i64 m ∧ k0 ≤ m ∧ m ≤ k0 + (k : Int) * 1048577 ∧ Hid (wr.ownsRow lo 39 2 (.slice (some ⟨g, 0, none⟩) l.length l.length) l.length ys) ∧ Hid (EntFrom wr c ys l k) ∧ Wid lo hi w wr) (fun _ i _ => l.length - (intOf i).toNat)
  case atStart => exact ⟨0, k0, xs, Nat.zero_le _, rfl, rfl, by omega, by omega, HO, HE, Wid.refl _ _ _⟩
  clear HO HE
  case round =>
    obtain ⟨k, m, ys, hk, rfl, rfl, hm0, hm1, HO, HE, hw⟩ := hrel
    have HW := Lib.hid hw; clear hw
    by_cases hlt : k < l.length
    · obtain ⟨u, e1, e3, e4⟩ := HE.out k hlt (Nat.le_refl _)
      have hki : (k : Int) < (l.length : Int) := by omega
      have hk0 : (0 : Int) ≤ (k : Int) := by omega
      have hx : ys.length = l.length * 2 := HO.out.1
      have d1 : wr.cell? ⟨g, k * 2, none⟩ = some u := by rw [HO.out.cellAt (k * 2) (by omega)]; exact e1
      obtain ⟨z2, d2⟩ : ∃ z, wr.cell? ⟨g, k * 2 + 1, none⟩ = some z := by
        rw [HO.out.cellAt (k * 2 + 1) (by omega)]
        exact ⟨_, List.getElem?_eq_getElem (by omega)⟩
      have hs : (l[k]).1.length ≤ 1048576 := (HF.out _ (List.getElem_mem hlt)).1
      generalize hp : (l[k]).1 = p at e3 hs
      have HP := Lib.hid hp; clear hp
      obtain ⟨au, cu, rfl⟩ := row_formD e3
      have HMK := Lib.hid (markIntS_any _ _ _ _ m wr e3 hs (by omega) (by omega))
      have hgk : g < c k := Nat.lt_of_lt_of_le HG.out (HM.out k (by omega))
      have HI := Lib.hid (show ∀ b, Value.ownBlock (.slice au p.length cu) = some b → c k ≤ b ∧ b < c (k + 1) from fun b hb => ⟨(e3.lt b hb).1, e4 b hb⟩)
      have hkl : lo ≤ c k := by have := HL.out; omega
      have hku : c (k + 1) ≤ hi := HU.out _ (by omega)
      have HN := Lib.hid (fun (w' : World) (hw : Wid g (c (k + 1)) wr w') (zs : List Value) (hz : ∀ j, k < j → zs[j * 2]? = ys[j * 2]?) => EntFrom.next HE.out HC.out hlt hw hz)
      clear e1 e3 e4 HE
      have m0 : (0 : Int) ≤ m + (p.length : Int) := by omega
      have m1 : m + (p.length : Int) ≤ 4000000000000000000 := by omega
      go_wp2_with (first
        | (go_at_call 150; refine (markText_big _ _ m0 m1).mono ?_; rintro e w2 ⟨rfl, hb2⟩; have HO2 := Lib.hid (own_keep HO1.out hb2); have HD2 := Lib.hid ((HD1.out).trans (Wid.of_below g (c (k + 1)) hb2)); have f1 := keepcE hb2 f0; have g1 := HO2.out.frozenAt (k * 2 + 1); clear hb2)
        | (go_at_call 62; refine HMK.out.mono ?_; rintro e w1 ⟨rfl, hwr⟩; have HD1 := Lib.hid (show Wid g (c (k + 1)) wr w1 from Wid.of_grown hwr.2 (fun b hb => by have := HI.out b hb; omega)); have HO1 := Lib.hid (HO.out.kept hwr.2 (by right; intro e; have := HI.out g e.symm; omega)); have f0 := hwr.2.cell d2 (by intro e; have := HI.out g e.symm; omega); clear hwr))
      go_roundw
      case rel =>
        have h2 := HO2.out.stored (k * 2 + 1) (.string (Pl.markT (m + (p.length : Int))))
        have h3 := HD2.out.trans (Wid.of_grown (lo := g) (hi := c (k + 1)) h2.2 (fun b hb => by have hb' : g = b := Option.some.inj hb; have := HC.out k hlt; omega))
        exact ⟨k + 1, m + (p.length : Int) + 1, _, by omega, by go_num, by go_num, by omega, by omega, Lib.hid h2.1, Lib.hid (HN.out _ h3 _ (even_set ys k _)), HW.out.trans (h3.wider HL.out hku)⟩
      case measure => simp [intOf]; omega
    · obtain rfl : k = l.length := by omega
      go_wp2
      go_ret
      exact ⟨⟨m, rfl, hm0, by omega⟩, HW.out⟩

/-- the cells of n marks in pieces -/
def marksP (k0 : Int) (n : Nat) : List (Int × Int × ByteArray) := (List.range n).map fun (i : Nat) => (k0 + 3 * (i : Int), k0 + 3 * (i : Int) + 1, Pl.markT (k0 + 3 * (i : Int) + 2))
theorem marksP_length (k0 : Int) (n : Nat) : (marksP k0 n).length = n := by simp [marksP]
theorem marksP_at (k0 : Int) (n i : Nat) (h : i < (marksP k0 n).length) : (marksP k0 n)[i] = (k0 + 3 * (i : Int), k0 + 3 * (i : Int) + 1, Pl.markT (k0 + 3 * (i : Int) + 2)) := by simp [marksP]

end Go.Proofs.YtdidgaibgkdjoaaGreatDoor

namespace Go.Proofs.YtdidgaibgkdjoaaGreatDoor
open Go.RowKit

/-- rows of different element types lie in different blocks -/
theorem apart_type {w : World} {b b' : Nat} {E E' : TypeId} {s s' n n' : Nat} {v v' : Value} {xs xs' : List Value} (h : w.ownsRow b E s v n xs) (h' : w.ownsRow b' E' s' v' n' xs') (hne : E ≠ E') : ∀ g, v.ownBlock = some g → v'.ownBlock ≠ some g := by
  intro g hg hg'
  rcases h.2 with ⟨rfl, _⟩ | ⟨g1, c1, u1, rfl, _, k1, _⟩
  · simp [Value.ownBlock] at hg
  · rcases h'.2 with ⟨rfl, _⟩ | ⟨g2, c2, u2, rfl, _, k2, _⟩
    · simp [Value.ownBlock] at hg'
    · simp only [Value.ownBlock, Option.some.injEq] at hg hg'
      subst hg
      subst hg'
      rw [k1] at k2
      cases k2
      exact hne rfl

/-- the inner rows: each of the call's own, no two in one block -/
def Inner (w : World) (lo hi : Nat) (xs : List Value) (sz p : Nat) (L : List (List Int)) (U : Nat → Value) : Prop :=
  (∀ j (h : j < L.length), xs[j * sz + p]? = some (U j) ∧ w.ownsRow lo 3 1 (U j) (L[j]).length (ints L[j]) ∧ (∀ g, (U j).ownBlock = some g → g < hi)) ∧ (∀ i j, i < j → j < L.length → ∀ g, (U i).ownBlock = some g → (U j).ownBlock ≠ some g)
def OwnNest (E : TypeId) (sz p : Nat) (w : World) (lo hi : Nat) (v : Value) (L : List (List Int)) (xs : List Value) : Prop :=
  OwnRow E sz w lo hi v L.length xs ∧ ∃ U, Inner w lo hi xs sz p L U
theorem Inner.keep {w w' : World} {lo hi sz p : Nat} {xs : List Value} {L : List (List Int)} {U : Nat → Value} (h : Inner w lo hi xs sz p L U) (hb : Below w.heap.size w w') : Inner w' lo hi xs sz p L U :=
  ⟨fun j hj => ⟨(h.1 j hj).1, own_keep (h.1 j hj).2.1 hb, (h.1 j hj).2.2⟩, h.2⟩
theorem Inner.wid {w w' : World} {lo hi sz p a b : Nat} {xs : List Value} {L : List (List Int)} {U : Nat → Value} (h : Inner w lo hi xs sz p L U) (hw : Wid a b w w') (hd : hi ≤ a ∨ b ≤ lo) : Inner w' lo hi xs sz p L U :=
  ⟨fun j hj => ⟨(h.1 j hj).1, own_wid (h.1 j hj).2.1 hw (fun g hg => by have := (h.1 j hj).2.2 g hg; have := ((h.1 j hj).2.1.lt g hg).1; omega), (h.1 j hj).2.2⟩, h.2⟩
theorem OwnNest.keep {E : TypeId} {sz p : Nat} {w w' : World} {lo hi : Nat} {v : Value} {L : List (List Int)} {xs : List Value} (h : OwnNest E sz p w lo hi v L xs) (hb : Below w.heap.size w w') : OwnNest E sz p w' lo hi v L xs := by
  obtain ⟨h1, U, h2⟩ := h
  exact ⟨h1.keep hb, U, h2.keep hb⟩
theorem OwnNest.wid {E : TypeId} {sz p : Nat} {w w' : World} {lo hi a b : Nat} {v : Value} {L : List (List Int)} {xs : List Value} (h : OwnNest E sz p w lo hi v L xs) (hw : Wid a b w w') (hd : hi ≤ a ∨ b ≤ lo) : OwnNest E sz p w' lo hi v L xs := by
  obtain ⟨h1, U, h2⟩ := h
  exact ⟨h1.wid hw hd, U, h2.wid hw hd⟩
theorem OwnNest.drew {E : TypeId} {sz p : Nat} {w : World} {lo hi : Nat} {v : Value} {L : List (List Int)} {xs : List Value} (h : OwnNest E sz p w lo hi v L xs) : OwnNest E sz p w.drew lo hi v L xs := h

/-- as it reads: a slice whose elements hold slices of integers -/
def Nests (sz p : Nat) (w : World) (v : Value) (L : List (List Int)) : Prop :=
  ∃ a cap, v = .slice a L.length cap ∧ L.length ≤ cap ∧ cap ≤ maxLen ∧ ∀ (k : Nat) (h : k < L.length), ∃ b off u, a = some ⟨b, off, none⟩ ∧ w.cell? ⟨b, off + (k * sz + p), none⟩ = some u ∧ Rows w u (L[k]).length 1 (ints L[k])
theorem Nests.keep {sz p : Nat} {w w' : World} {v : Value} {L : List (List Int)} (h : Nests sz p w v L) (hb : Below w.heap.size w w') : Nests sz p w' v L := by
  obtain ⟨a, cap, h1, h2, h3, h5⟩ := h
  refine ⟨a, cap, h1, h2, h3, fun k hk => ?_⟩
  obtain ⟨b, off, u, e1, e2, e3⟩ := h5 k hk
  exact ⟨b, off, u, e1, by rw [hb.cell (World.block_lt_of_cell? _ _ e2)]; exact e2, e3.keep hb⟩
theorem OwnNest.nests {E : TypeId} {sz p : Nat} {w : World} {lo hi : Nat} {v : Value} {L : List (List Int)} {xs : List Value} (h : OwnNest E sz p w lo hi v L xs) : Nests sz p w v L := by
  obtain ⟨h1, U, h2⟩ := h
  obtain ⟨a, cap, e, h4, h5, h6, h7, h8⟩ := h1.rows
  refine ⟨a, cap, e, h4, h5, fun k hk => ?_⟩
  obtain ⟨e1, e2, _⟩ := h2.1 k hk
  obtain ⟨b, off, e4, e5⟩ := h8 _ _ e1
  exact ⟨b, off, U k, e4, e5, Rows.of_own e2⟩
theorem nest_form {sz p : Nat} {w : World} {v : Value} {L : List (List Int)} (h : Nests sz p w v L) : ∃ a cap, v = .slice a L.length cap ∧ L.length ≤ cap ∧ cap ≤ maxLen := by
  obtain ⟨a, cap, h1, h2, h3, _⟩ := h
  exact ⟨a, cap, h1, h2, h3⟩
theorem nest_at {sz p : Nat} {w : World} {a : Option Addr} {n cap : Nat} {L : List (List Int)} (h : Nests sz p w (.slice a n cap) L) (k : Nat) (hk : k < L.length) :
    ∃ b off u, a = some ⟨b, off, none⟩ ∧ w.cell? ⟨b, off + (k * sz + p), none⟩ = some u ∧ Rows w u (L[k]).length 1 (ints L[k]) := by
  obtain ⟨a', cap', h1, h2, h3, h5⟩ := h
  cases h1
  exact h5 k hk

/-- rows marked one after the other -/
def marksII : Int → List (List Int) → List (List Int)
  | _, [] => []
  | k, l :: r => marksI k l.length :: marksII (k + l.length) r
def lens : List (List Int) → Nat
  | [] => 0
  | l :: r => l.length + lens r
theorem marksII_len : ∀ (k : Int) (L : List (List Int)), (marksII k L).length = L.length
  | _, [] => rfl
  | k, l :: r => by show (marksII _ r).length + 1 = r.length + 1; rw [marksII_len _ r]
theorem lens_take : ∀ (L : List (List Int)) (k : Nat) (h : k < L.length), lens (L.take (k + 1)) = lens (L.take k) + (L[k]).length
  | [], k, h => by simp at h
  | l :: r, 0, _ => by show l.length + lens (r.take 0) = 0 + l.length; simp [lens]
  | l :: r, k + 1, h => by
    show l.length + lens (r.take (k + 1)) = l.length + lens (r.take k) + _
    rw [lens_take r k (by simpa using h), Nat.add_assoc]
    rfl
theorem marksII_at : ∀ (a : Int) (L : List (List Int)) (k : Nat) (h : k < L.length), (marksII a L)[k]'(by rw [marksII_len]; exact h) = marksI (a + lens (L.take k)) (L[k]).length
  | _, [], k, h => by simp at h
  | a, l :: r, 0, _ => by show marksI a l.length = marksI (a + ((lens (List.take 0 (l :: r)) : Nat) : Int)) l.length; simp [lens]
  | a, l :: r, k + 1, h => by
    show (marksII (a + l.length) r)[k]'_ = marksI (a + ((l.length + lens (r.take k) : Nat) : Int)) (r[k]'(by simpa using h)).length
    rw [marksII_at (a + l.length) r k (by simpa using h)]
    congr 1
    omega
theorem lens_le {L : List (List Int)} {m : Nat} (h : ∀ q ∈ L, q.length ≤ m) : lens L ≤ L.length * m := by
  induction L with
  | nil => exact Nat.zero_le _
  | cons l r ih =>
    show l.length + lens r ≤ (r.length + 1) * m
    have h1 := ih (fun q hq => h q (List.mem_cons_of_mem _ hq))
    have h2 := h l List.mem_cons_self
    rw [Nat.add_mul, Nat.one_mul]
    omega
theorem lens_take_le (L : List (List Int)) (k : Nat) : lens (L.take k) ≤ lens L := by
  induction L generalizing k with
  | nil => simp [lens]
  | cons l r ih =>
    cases k with
    | zero => exact Nat.zero_le _
    | succ k => show l.length + lens (r.take k) ≤ l.length + lens r; have := ih k; omega

/-- one inner row is written anew, the others are kept -/
theorem Inner.set {w w' : World} {lo hi sz p k : Nat} {xs : List Value} {L M : List (List Int)} {U : Nat → Value} (h : Inner w lo hi xs sz p L U) (hk : k < L.length) (hM : M.length = L.length) (hg : w.grownBy w' (U k).ownBlock) (hr : w'.ownsRow lo 3 1 (U k) (L[k]).length (ints (M[k]'(by omega)))) (hl : (M[k]'(by omega)).length = (L[k]).length) (ho : ∀ j (hj : j < L.length), j ≠ k → M[j]'(by omega) = L[j]) : Inner w' lo hi xs sz p M U := by
  refine ⟨fun j hj => ?_, fun i j hij hj => h.2 i j hij (by omega)⟩
  obtain ⟨e1, e2, e3⟩ := h.1 j (by omega)
  by_cases he : j = k
  · subst he
    exact ⟨e1, by rw [hl]; exact hr, e3⟩
  · have e := ho j (by omega) he
    refine ⟨e1, ?_, e3⟩
    rw [e]
    refine e2.kept hg ?_
    cases hu : (U j).ownBlock with
    | none => exact .inl rfl
    | some g =>
      right
      intro e4
      rcases Nat.lt_or_ge j k with h' | h'
      · exact h.2 j k h' hk g hu e4.symm
      · exact h.2 k j (by omega) (by omega) g e4.symm hu

end Go.Proofs.YtdidgaibgkdjoaaGreatDoor
