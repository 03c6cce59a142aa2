/-
  CONTRACTS: the methods of a state that lies in a block of memory: put, glue, end, apply.
-/
import Derived.Test.YtdidgaibgkdjoaaGreatDoorBasS
import Derived.Test.YtdidgaibgkdjoaaGreatDoorDrawEd
import Derived.BigRegion
namespace Go.Proofs.YtdidgaibgkdjoaaGreatDoor
open Go.RowKit

/-- a state in block b -/
def St (w : World) (b : Nat) (s : Pl.Sta) : Prop :=
  w.cell? ⟨b, 0, none⟩ = some (.string s.t) ∧ w.cell? ⟨b, 1, none⟩ = some (.bool s.j) ∧ w.cell? ⟨b, 2, none⟩ = some (.bool s.g) ∧ w.cell? ⟨b, 3, none⟩ = some (.int .i64 s.c) ∧ w.cell? ⟨b, 4, none⟩ = some (.int .i64 s.k) ∧ thawed w b
theorem St.lt {w : World} {b : Nat} {s : Pl.Sta} (h : St w b s) : b < w.heap.size := World.block_lt_of_cell? _ _ h.1

theorem grown_to {w X : World} {r : Option Nat} (h : w.grownBy X r) (n : Nat) : w.grownBy (X.drewN n) r := ⟨h.os, h.tape, h.output, h.size, h.block⟩
theorem grown_drew {w X : World} {r : Option Nat} (h : w.grownBy X r) : w.grownBy X.drew r := ⟨h.os, h.tape, h.output, h.size, h.block⟩
theorem grown_then {w X : World} {b : Nat} (h : w.grownBy X (some b)) (i : Nat) (u : Value) : w.grownBy (X.setCell ⟨b, i, none⟩ u) (some b) := grownBy_trans h (grown_set X b i u)

theorem Pl.put_yes {t : ByteArray} {g : Bool} {c k : Int} {x : ByteArray} : Pl.put ⟨t, true, g, c, k⟩ x = ⟨t ++ Pl.caseB c x, true, g, 0, t.size⟩ := rfl
theorem Pl.put_no {t : ByteArray} {g : Bool} {c k : Int} {x : ByteArray} : Pl.put ⟨t, false, g, c, k⟩ x = ⟨(t ++ ⟨#[32]⟩) ++ Pl.caseB c x, false, g, 0, (t ++ ⟨#[32]⟩ : ByteArray).size⟩ := rfl
theorem Pl.size_sp (t : ByteArray) : (t ++ ⟨#[32]⟩ : ByteArray).size = t.size + 1 := by rw [ByteArray.size_append]; rfl

set_option maxHeartbeats 1600000 in
theorem put_any (b : Nat) (t : ByteArray) (j g : Bool) (c k : Int) (x : ByteArray) (w : World) (h : St w b ⟨t, j, g, c, k⟩) (ht : t.size ≤ 1048576) (hx : x.size ≤ 1048576) :
    Calls Tryz.prog 224 #[.pointer (some ⟨b, 0, none⟩), .string x] w fun e w' => e = .returned (.tuple #[]) ∧ St w' b (Pl.put ⟨t, j, g, c, k⟩ x) ∧ w.grownBy w' (some b) := by
  have hx' : x.size ≤ maxLen := by unfold maxLen; omega
  have hz1 := Pl.up_size x
  have hz2 := Pl.low_size x
  obtain ⟨c0, c1, c2, c3, c4, hf⟩ := h
  dsimp only at c0 c1 c2 c3 c4
  have f0 := hf 0; have f1 := hf 1; have f2 := hf 2; have f3 := hf 3; have f4 := hf 4
  have hlt := World.block_lt_of_cell? _ _ c0
  have HF : ∀ i, w.frozen? ⟨b, i, none⟩ = false := hf
  by_cases h1 : c = 1
  · subst h1
    cases j
    · go_enter Tryz.func224, Tryz.ntmps224
      go_wp2_with (first | (go_at_call 227; refine (upper_any _ _ hx').mono ?_; rintro e w' ⟨rfl, n1, rfl⟩) | (go_at_call 234; refine (lower_any _ _ hx').mono ?_; rintro e w' ⟨rfl, n1, rfl⟩))
      all_goals
        refine bodyPost_end (v := .tuple #[]) (by simp [results, Tryz.results224, go_sem, *]) rfl ⟨rfl, ?_, ?_⟩
        · first | rw [Pl.put_yes] | rw [Pl.put_no, Pl.size_sp]
          rw [(show Pl.caseB 1 x = Pl.up x from rfl)]
          refine ⟨?_, ?_, ?_, ?_, ?_, fun i => ?_⟩
          all_goals simp [go_sem, *]
        · repeat (first | with_reducible exact World.grownBy.refl _ _ | with_reducible apply grown_then | with_reducible apply grown_to | with_reducible apply grown_drew)
    · go_enter Tryz.func224, Tryz.ntmps224
      go_wp2_with (first | (go_at_call 227; refine (upper_any _ _ hx').mono ?_; rintro e w' ⟨rfl, n1, rfl⟩) | (go_at_call 234; refine (lower_any _ _ hx').mono ?_; rintro e w' ⟨rfl, n1, rfl⟩))
      all_goals
        refine bodyPost_end (v := .tuple #[]) (by simp [results, Tryz.results224, go_sem, *]) rfl ⟨rfl, ?_, ?_⟩
        · first | rw [Pl.put_yes] | rw [Pl.put_no, Pl.size_sp]
          rw [(show Pl.caseB 1 x = Pl.up x from rfl)]
          refine ⟨?_, ?_, ?_, ?_, ?_, fun i => ?_⟩
          all_goals simp [go_sem, *]
        · repeat (first | with_reducible exact World.grownBy.refl _ _ | with_reducible apply grown_then | with_reducible apply grown_to | with_reducible apply grown_drew)
  by_cases h2 : c = 2
  · subst h2
    cases j
    · go_enter Tryz.func224, Tryz.ntmps224
      go_wp2_with (first | (go_at_call 227; refine (upper_any _ _ hx').mono ?_; rintro e w' ⟨rfl, n1, rfl⟩) | (go_at_call 234; refine (lower_any _ _ hx').mono ?_; rintro e w' ⟨rfl, n1, rfl⟩))
      all_goals
        refine bodyPost_end (v := .tuple #[]) (by simp [results, Tryz.results224, go_sem, *]) rfl ⟨rfl, ?_, ?_⟩
        · first | rw [Pl.put_yes] | rw [Pl.put_no, Pl.size_sp]
          rw [(show Pl.caseB 2 x = Pl.low x from rfl)]
          refine ⟨?_, ?_, ?_, ?_, ?_, fun i => ?_⟩
          all_goals simp [go_sem, *]
        · repeat (first | with_reducible exact World.grownBy.refl _ _ | with_reducible apply grown_then | with_reducible apply grown_to | with_reducible apply grown_drew)
    · go_enter Tryz.func224, Tryz.ntmps224
      go_wp2_with (first | (go_at_call 227; refine (upper_any _ _ hx').mono ?_; rintro e w' ⟨rfl, n1, rfl⟩) | (go_at_call 234; refine (lower_any _ _ hx').mono ?_; rintro e w' ⟨rfl, n1, rfl⟩))
      all_goals
        refine bodyPost_end (v := .tuple #[]) (by simp [results, Tryz.results224, go_sem, *]) rfl ⟨rfl, ?_, ?_⟩
        · first | rw [Pl.put_yes] | rw [Pl.put_no, Pl.size_sp]
          rw [(show Pl.caseB 2 x = Pl.low x from rfl)]
          refine ⟨?_, ?_, ?_, ?_, ?_, fun i => ?_⟩
          all_goals simp [go_sem, *]
        · repeat (first | with_reducible exact World.grownBy.refl _ _ | with_reducible apply grown_then | with_reducible apply grown_to | with_reducible apply grown_drew)
  have hn : Pl.caseB c x = x := by unfold Pl.caseB; rw [if_neg h1, if_neg h2]
  cases j
  · go_enter Tryz.func224, Tryz.ntmps224
    go_wp2_with (first | (go_at_call 227; refine (upper_any _ _ hx').mono ?_; rintro e w' ⟨rfl, n1, rfl⟩) | (go_at_call 234; refine (lower_any _ _ hx').mono ?_; rintro e w' ⟨rfl, n1, rfl⟩))
    all_goals
      refine bodyPost_end (v := .tuple #[]) (by simp [results, Tryz.results224, go_sem, *]) rfl ⟨rfl, ?_, ?_⟩
      · first | rw [Pl.put_yes] | rw [Pl.put_no, Pl.size_sp]
        rw [hn]
        refine ⟨?_, ?_, ?_, ?_, ?_, fun i => ?_⟩
        all_goals simp [go_sem, *]
      · repeat (first | with_reducible exact World.grownBy.refl _ _ | with_reducible apply grown_then | with_reducible apply grown_to | with_reducible apply grown_drew)
  · go_enter Tryz.func224, Tryz.ntmps224
    go_wp2_with (first | (go_at_call 227; refine (upper_any _ _ hx').mono ?_; rintro e w' ⟨rfl, n1, rfl⟩) | (go_at_call 234; refine (lower_any _ _ hx').mono ?_; rintro e w' ⟨rfl, n1, rfl⟩))
    all_goals
      refine bodyPost_end (v := .tuple #[]) (by simp [results, Tryz.results224, go_sem, *]) rfl ⟨rfl, ?_, ?_⟩
      · first | rw [Pl.put_yes] | rw [Pl.put_no, Pl.size_sp]
        rw [hn]
        refine ⟨?_, ?_, ?_, ?_, ?_, fun i => ?_⟩
        all_goals simp [go_sem, *]
      · repeat (first | with_reducible exact World.grownBy.refl _ _ | with_reducible apply grown_then | with_reducible apply grown_to | with_reducible apply grown_drew)

/-- the state behind a glue -/
def Pl.glued (s : Pl.Sta) (x : ByteArray) : Pl.Sta := if s.g = true then ⟨s.t ++ Pl.caseB s.c x, true, true, 0, s.k⟩ else Pl.put s x

set_option maxHeartbeats 1600000 in
theorem glue_any (b : Nat) (t : ByteArray) (j g : Bool) (c k : Int) (x : ByteArray) (w : World) (h : St w b ⟨t, j, g, c, k⟩) (ht : t.size ≤ 1048576) (hx : x.size ≤ 1048576) :
    Calls Tryz.prog 225 #[.pointer (some ⟨b, 0, none⟩), .string x] w fun e w' => e = .returned (.tuple #[]) ∧ St w' b (Pl.glued ⟨t, j, g, c, k⟩ x) ∧ w.grownBy w' (some b) := by
  have h0 := h
  obtain ⟨c0, c1, c2, c3, c4, hf⟩ := h
  dsimp only at c0 c1 c2 c3 c4
  have f0 := hf 0; have f1 := hf 1; have f2 := hf 2; have f3 := hf 3; have f4 := hf 4
  have hlt := World.block_lt_of_cell? _ _ c0
  have HF : ∀ i, w.frozen? ⟨b, i, none⟩ = false := hf
  cases g
  · have HS := Lib.hid h0
    clear h0
    have hx1 := put_any b t j false c k x w HS.out ht hx
    go_enter Tryz.func225, Tryz.ntmps225
    go_wp2_with (go_at_call 224; refine hx1.mono ?_; rintro e w1 ⟨rfl, hst, hg⟩; have HS1 := Lib.hid hst; have HG := Lib.hid hg; have d2 := hst.2.2.1; (have d2' : w1.cell? ⟨b, 2, none⟩ = some (.bool false) := (by cases j <;> exact d2)); clear d2 hst hg hx1)
    refine bodyPost_end (v := .tuple #[]) (by simp [results, Tryz.results225, go_sem, *]) rfl ⟨rfl, HS1.out, HG.out⟩
  · have HS : Hid (St (w.setCell ⟨b, 1, none⟩ (.bool true)) b ⟨t, true, true, c, k⟩) := Lib.hid (by
      refine ⟨?_, ?_, ?_, ?_, ?_, fun i => ?_⟩
      all_goals simp [go_sem, *])
    have hx1 := put_any b t true true c k x _ HS.out ht hx
    clear h0
    go_enter Tryz.func225, Tryz.ntmps225
    go_wp2_with (go_at_call 224; refine hx1.mono ?_; rintro e w1 ⟨rfl, hst, hg⟩; rw [Pl.put_yes] at hst; obtain ⟨d0, d1, d2, d3, d4, e0⟩ := hst; dsimp only at d0 d1 d2 d3 d4; have g0 := e0 0; have g1 := e0 1; have g2 := e0 2; have g3 := e0 3; have g4 := e0 4; have E0 : ∀ i, w1.frozen? ⟨b, i, none⟩ = false := e0; have HG := Lib.hid hg; clear hg hx1)
    refine bodyPost_end (v := .tuple #[]) (by simp [results, Tryz.results225, go_sem, *]) rfl ⟨rfl, ?_, ?_⟩
    · refine ⟨?_, ?_, ?_, ?_, ?_, fun i => ?_⟩
      all_goals simp [Pl.glued, go_sem, *]
    · exact grown_then (grownBy_trans (grown_set w b 1 _) HG.out) _ _

theorem Pl.joinOut_size (s t : ByteArray) : (Pl.joinOut s t).size ≤ 24 := by
  unfold Pl.joinOut
  split
  · rename_i h
    simp only [Pl.joinOk, Bool.and_eq_true, decide_eq_true_iff] at h
    exact h.2
  · exact Nat.zero_le _
theorem St.keep {w w' : World} {b : Nat} {s : Pl.Sta} (h : St w b s) (hb : Below w.heap.size w w') : St w' b s := by
  have hl := h.lt
  obtain ⟨c0, c1, c2, c3, c4, hf⟩ := h
  exact ⟨keepE hb c0, keepE hb c1, keepE hb c2, keepE hb c3, keepE hb c4, fun i => ((bcell hb).2 _ _ hl).trans (hf i)⟩
theorem St.alloc {w : World} {b : Nat} {s : Pl.Sta} (h : St w b s) (o : Obj) : St (w.alloc o) b s := h.keep ((Below.refl _ _).alloc (Nat.le_refl _) o)
theorem St.drewN {w : World} {b : Nat} {s : Pl.Sta} (h : St w b s) (n : Nat) : St (w.drewN n) b s := h
theorem St.drew {w : World} {b : Nat} {s : Pl.Sta} (h : St w b s) : St w.drew b s := h
theorem grown_below {w X Y : World} {r : Option Nat} (h : w.grownBy X r) (k : Below X.heap.size X Y) : w.grownBy Y r :=
  grownBy_trans h ⟨k.os, k.tape, k.output, k.size, fun i hi _ => k.block i hi⟩
theorem grown_al {w X : World} {r : Option Nat} (h : w.grownBy X r) (o : Obj) : w.grownBy (X.alloc o) r := grown_below h ((Below.refl _ _).alloc (Nat.le_refl _) o)

set_option maxHeartbeats 1600000 in
theorem end_any (b : Nat) (t : ByteArray) (j g : Bool) (c k : Int) (x : ByteArray) (w : World) (h : St w b ⟨t, j, g, c, k⟩) (ht : t.size ≤ 1048576) (hx : x.size ≤ 1048576) (h0 : 0 ≤ k) (h1 : k ≤ t.size) :
    Calls Tryz.prog 226 #[.pointer (some ⟨b, 0, none⟩), .string x] w fun e w' => e = .returned (.tuple #[]) ∧ St w' b ⟨Pl.ended t k x, j, g, c, k⟩ ∧ w.grownBy w' (some b) := by
  have hx' : x.size ≤ maxLen := by unfold maxLen; omega
  have hm : (t.extract k.toNat t.size).size ≤ maxLen := by rw [ByteArray.size_extract]; unfold maxLen; omega
  have HS := Lib.hid h
  obtain ⟨c0, c1, c2, c3, c4, hf⟩ := h
  dsimp only at c0 c1 c2 c3 c4
  have hlt := World.block_lt_of_cell? _ _ c0
  have HJ := Lib.hid (JoinSuffix_any (t.extract k.toNat t.size) x)
  have hj := Pl.joinOut_size (t.extract k.toNat t.size) x
  clear hf
  have E : Hid (Pl.ended t k x = if Pl.joinOk (t.extract k.toNat t.size) x = true then t.extract 0 k.toNat ++ Pl.joinOut (t.extract k.toNat t.size) x else t ++ x) := Lib.hid rfl
  have HX := Lib.hid (fun W : World => run_string_add_sum (P := Tryz.prog) W t x (by omega))
  have HY := Lib.hid (fun W : World => run_string_add_sum (P := Tryz.prog) W (t.extract 0 k.toNat) (Pl.joinOut (t.extract k.toNat t.size) x) (by rw [ByteArray.size_extract]; omega))
  generalize Pl.joinOut (t.extract k.toNat t.size) x = jo at E HJ hj HY
  generalize Pl.joinOk (t.extract k.toNat t.size) x = ok at E HJ
  have HG0 := Lib.hid (World.grownBy.refl w (some b))
  cases ok
  · rw [if_neg (by decide)] at E
    have hadd := HX.out
    go_enter Tryz.func226, Tryz.ntmps226
    go_wp2
    go_region_with (go_at_call 235; refine (HJ.out _ hm hx').mono ?_; rintro e w1 ⟨rfl, hb1⟩; have HS1 := Lib.hid (HS.out.drew.keep hb1); have HB := Lib.hid hb1; clear hb1; obtain ⟨d0, d1, d2, d3, d4, e0⟩ := HS1.out; dsimp only at d0 d1 d2 d3 d4; have e00 := e0 0)
    all_goals go_wp2
    all_goals
      refine bodyPost_end (v := .tuple #[]) (by simp [results, Tryz.results226, go_sem, *]) rfl ⟨rfl, ?_, ?_⟩
      · rw [E.out]
        have E0 : ∀ i, w1.frozen? ⟨b, i, none⟩ = false := e0
        refine ⟨?_, ?_, ?_, ?_, ?_, fun i => ?_⟩
        all_goals simp [go_sem, *]
      · repeat (first | with_reducible exact HG0.out | with_reducible apply grown_then | with_reducible apply grown_drew | with_reducible apply grown_to | with_reducible refine grown_below ?_ HB.out)
  · rw [if_pos rfl] at E
    have hadd := HY.out
    go_enter Tryz.func226, Tryz.ntmps226
    go_wp2
    go_region_with (go_at_call 235; refine (HJ.out _ hm hx').mono ?_; rintro e w1 ⟨rfl, hb1⟩; have HS1 := Lib.hid (HS.out.drew.keep hb1); have HB := Lib.hid hb1; clear hb1; obtain ⟨d0, d1, d2, d3, d4, e0⟩ := HS1.out; dsimp only at d0 d1 d2 d3 d4; have e00 := e0 0)
    all_goals go_wp2
    all_goals go_region
    all_goals go_wp2
    all_goals
      refine bodyPost_end (v := .tuple #[]) (by simp [results, Tryz.results226, go_sem, *]) rfl ⟨rfl, ?_, ?_⟩
      · rw [E.out]
        have E0 : ∀ i, w1.frozen? ⟨b, i, none⟩ = false := e0
        refine ⟨?_, ?_, ?_, ?_, ?_, fun i => ?_⟩
        all_goals simp [go_sem, *]
      · repeat (first | with_reducible exact HG0.out | with_reducible apply grown_then | with_reducible apply grown_drew | with_reducible apply grown_to | with_reducible refine grown_below ?_ HB.out)

theorem grown_cell {w w' : World} {b B i : Nat} {u : Value} (h : w.grownBy w' (some b)) (hne : B ≠ b) (hc : w.cell? ⟨B, i, none⟩ = some u) : w'.cell? ⟨B, i, none⟩ = some u := by
  have hl := World.block_lt_of_cell? _ _ hc
  have hb := h.block B hl (fun e => hne (by injection e))
  unfold World.cell? at hc ⊢
  simpa [hb] using hc

end Go.Proofs.YtdidgaibgkdjoaaGreatDoor
